/- A node of a group that stands: Step of a vote. -/
import Derived.Test.YtdeaelbelcjhcaaDoorRaft32


namespace Go.Proofs.YtdeaelbelcjhcaaDoor
open Go.RowKit

/-- a vote -/
def wmsg (fr tm : Int) : List Value := [.int .i64 2, .int .i64 fr, .int .i64 0, .int .u64 tm, .int .u64 0, .int .u64 0, .slice none 0 0, .int .u64 0, .int .u64 0, .bool true, .int .i64 0, .slice none 0 0, .bool false, .int .u64 0, .int .u64 0, .string ⟨#[]⟩, .int .u64 0, .int .i64 0, .slice none 0 0, .slice none 0 0, .int .i64 0, .int .u64 0, .int .i64 0]

/-- a candidate between two steps -/
structure CT (w : World) (b vb : Nat) (r : Rf) (g : Lg) (l : List Bool) : Prop where
  B : Blk w b 63 r.cells
  V : Blk w vb 4 (bls l).toArray
  L : LogAt w r.lg g
  vs : r.vs = (some ⟨vb, 0, none⟩, l.length, l.length)
  ro : r.ro = 1
  ms : r.ms = (none, 0, 0)
  dn : r.dn = (none, 0, 0)
  rs : r.rs = (none, 0, 0)
  fr : r.fr = 0
theorem CT.keep0 {w w' : World} {b vb : Nat} {r : Rf} {g : Lg} {l : List Bool} (h : CT w b vb r g l) (hk : Keeps [] w w') : CT w' b vb r g l :=
  ⟨h.B.keep hk (by simp), h.V.keep hk (by simp), h.L.keep0 hk, h.vs, h.ro, h.ms, h.dn, h.rs, h.fr⟩

set_option maxRecDepth 100000 in
set_option maxHeartbeats 8000000 in
theorem rstep_voted_no (b vb i : Nat) (r : Rf) (g : Lg) (l : List Bool) (d0 : Int) (w : World) (hT : CT w b vb r g l) (hid : r.id = 0) (hn : r.n = (l.length : Int)) (hi0 : 0 < i) (hi1 : i < l.length) (h7 : l.length ≤ 7) (hno : 2 * (yes (l.set i true) : Int) ≤ r.n) :
    Calls Tryd.prog 8 #[.pointer (some ⟨b, 0, none⟩), .agg (wmsg (i : Int) r.tm).toArray, .int .i64 d0] w fun e w' => ∃ v, e = .returned v ∧ CT w' b vb r.bare g (l.set i true) ∧ Keeps [b, vb] w w' := by
  have hX1 := (Blk.fresh w 49 (wmsg (i : Int) r.tm).toArray).alloc (.cells #[.slice none 0 0, .int .u64 0, .int .i64 0, .int .u64 0, .slice none 0 0, .slice none 0 0] 36)
  have hY1 := Blk.fresh_at (w.alloc (.cells (wmsg (i : Int) r.tm).toArray 49)) 36 #[.slice none 0 0, .int .u64 0, .int .i64 0, .int .u64 0, .slice none 0 0, .slice none 0 0] (n := w.heap.size + 1) (by simp)
  have hk1 := ((Keeps.refl [] w).alloc (.cells (wmsg (i : Int) r.tm).toArray 49)).alloc (.cells #[.slice none 0 0, .int .u64 0, .int .i64 0, .int .u64 0, .slice none 0 0, .slice none 0 0] 36)
  have hT1 := hT.keep0 hk1
  have hbw := hT.B.lt
  have hvw := hT.V.lt
  have hlw := hT.L.lt
  have n1 : ¬ ((i : Int) < 0) := by omega
  have n2 : ¬ ((l.length : Int) ≤ (i : Int)) := by omega
  have n3 : ((i : Int) == 0) = false := by simp; omega
  have n4 : ¬ (l.length ≤ i) := by omega
  have n5 : (i : Int) < (l.length : Int) := by omega
  clear hT
  go_enter Tryd.func8, Tryd.ntmps8
  go_upto_region 1 with (fail)
  generalize World.alloc (World.alloc w _) _ = w1 at *
  generalize hye : w.heap.size + 1 = yb at *
  generalize hxe : w.heap.size = xb at *
  have hxy : xb ≠ yb := by omega
  have hby : b ≠ yb := by omega
  have hvy : vb ≠ yb := by omega
  have hc := hT1.B.cell
  simp only [Rf.cells, hid, hn, hT1.ro, hT1.vs] at hc
  have hcX := hX1.cell
  simp only [wmsg] at hcX
  have hlB := hT1.B.lt
  have hlX := hX1.lt
  go_quiet (fail)
  have hX2 := hX1.drewN nq
  have hY2 := hY1.drewN nq
  have hT2 := hT1.keep0 ((Keeps.refl [] w1).drewN nq)
  have hk2 := hk1.drewN nq
  generalize World.drewN w1 nq = w2 at *
  clear hc hcX hlB hlX hX1 hY1 hT1 hk1
  have hc := hT2.B.cell
  simp only [Rf.cells, hid, hn, hT2.ro, hT2.vs] at hc
  have hcX := hX2.cell
  simp only [wmsg] at hcX
  have hlB := hT2.B.lt
  have hlX := hX2.lt
  go_upto_region 3 with (fail)
  go_quiet (fail)
  have hX3 := hX2.drewN nq
  have hY3 := hY2.drewN nq
  have hT3 := hT2.keep0 ((Keeps.refl [] w2).drewN nq)
  have hk3 := hk2.drewN nq
  generalize World.drewN w2 nq = w3 at *
  clear hc hcX hlB hlX hX2 hY2 hT2 hk2
  have hc := hT3.B.cell
  simp only [Rf.cells, hid, hn, hT3.ro, hT3.vs] at hc
  have hcX := hX3.cell
  simp only [wmsg] at hcX
  have hlB := hT3.B.lt
  have hlX := hX3.lt
  go_upto_region 9 with (fail)
  go_quiet (fail)
  have hX4 := hX3.drewN nq
  have hY4 := hY3.drewN nq
  have hT4 := hT3.keep0 ((Keeps.refl [] w3).drewN nq)
  have hk4 := hk3.drewN nq
  generalize World.drewN w3 nq = w4 at *
  clear hc hcX hlB hlX hX3 hY3 hT3 hk3
  have hc := hT4.B.cell
  simp only [Rf.cells, hid, hn, hT4.ro, hT4.vs] at hc
  have hcX := hX4.cell
  simp only [wmsg] at hcX
  have hlB := hT4.B.lt
  have hlX := hX4.lt
  have hbv : b ≠ vb := hT4.B.ne hT4.V (by decide)
  have hlv : r.lg ≠ vb := by obtain ⟨_, _, hLb, _, _⟩ := hT4.L; exact hLb.ne hT4.V (by decide)
  have hlb : r.lg ≠ b := by obtain ⟨_, _, hLb, _, _⟩ := hT4.L; exact hLb.ne hT4.B (by decide)
  have hcV := bls_cell hT4.V (List.getElem?_eq_getElem hi1)
  have hlV := hT4.V.lt
  have hfV := hT4.V.free
  go_upto_region 18 with (fail)
  refine wp_region_still_tail 7 (by kernel_rfl) (by kernel_rfl) ?_
  change wpStill _ _ (World.drew _) _ _ _
  simp only [List.take_succ_cons, List.take_zero, List.drop_succ_cons, List.drop_zero]
  repeat still_step
  refine wpStill_nil ?_
  change wpList _ _ _ _ _ (World.drew _)
  go_upto_region 19 with (fail)
  have hks := ((Keeps.refl [vb] w4).set (p := ⟨vb, i, none⟩) (by simp) (.bool true)).drew
  have hV5 := ((hT4.V.put i (.bool true)).eq (cs' := (bls (l.set i true)).toArray) (bls_set l i true)).drew
  have hB5 := (hT4.B.other (p := ⟨vb, i, none⟩) hbv (.bool true)).drew
  have hL5 := hT4.L.keepB hks hT4.V (by intro v hv s e; subst e; simp [bls] at hv) hlv
  have hY5 := hY4.keep hks (by simpa using fun e => hvy e.symm)
  have hk5 : Keeps [b, vb] w (w4.setCell ⟨vb, i, none⟩ (.bool true)).drew := hk4.of_nil.trans (hks.mono (by intro x hx; simp at hx; simp [hx]))
  obtain ⟨t3, t4, t5, t6, t7, t8⟩ : r.vs = (some ⟨vb, 0, none⟩, l.length, l.length) ∧ r.ro = 1 ∧ r.ms = (none, 0, 0) ∧ r.dn = (none, 0, 0) ∧ r.rs = (none, 0, 0) ∧ r.fr = 0 := ⟨hT4.vs, hT4.ro, hT4.ms, hT4.dn, hT4.rs, hT4.fr⟩
  generalize World.drew (World.setCell w4 _ _) = w5 at *
  clear hc hcX hlB hlX hcV hlV hfV hT4 hX4 hY4 hk4 hks
  have hvs5 : Votes w5 vb r (l.set i true) := ⟨hV5, by rw [t3]; simp⟩
  have hlB := hB5.lt
  have HE := Lib.hid (relected_no b vb r (l.set i true) w5 hB5 hvs5 (by simpa using h7) hno)
  have HV := Lib.hid t3
  have HRO := Lib.hid t4
  have HMS := Lib.hid t5
  clear t3 t4 t5 hno hvs5
  go_wp2_with fail
  refine HE.out.mono ?_
  rintro e w' ⟨rfl, hw⟩
  obtain rfl := hw.symm
  clear hw HE
  go_wp2_with fail
  refine (rready b _ w5 hB5).mono ?_
  rintro e w7 ⟨rfl, hB7, hk7⟩
  have hY7 := hY5.keep hk7 (by simpa using fun e => hby e.symm)
  have hV7 := hV5.keep hk7 (by simpa using fun e => hbv e.symm)
  have hL7 := hL5.keepB hk7 hB5 r.nostr hlb
  have hk07 := hk5.trans (hk7.mono (L' := [b, vb]) (by intro x hx; simp at hx; simp [hx]))
  clear hY5 hV5 hL5 hB5 hk5 hk7
  obtain ⟨m1, m2, m3, y1, y2, y3, n1, n2, n3, p1, p2, p3, ho⟩ := Rf.out6 r
  rw [ho]
  clear ho
  have hcY := hY7.cell
  have hlY := hY7.lt
  have hfY := hY7.free
  go_wp2_with fail
  have hY8 := put6 hY7 (.slice m1 m2 m3) (.int .u64 y1) (.int .i64 y2) (.int .u64 y3) (.slice n1 n2 n3) (.slice p1 p2 p3)
  generalize World.setCell (World.setCell _ _ _) ⟨yb, 5, none⟩ _ = w8 at *
  refine bodyPost_ret (results_c rfl rfl hY8.1 Tryd.underlying36 rfl Tryd.sizeRE) rfl ⟨_, rfl, ⟨hB7.keep hY8.2 (by simpa using hby), hV7.keep hY8.2 (by simpa using hvy), hL7.keepB hY8.2 hY7 (by intro v hv s e; subst e; simp at hv) (show r.lg ≠ yb by omega), by show r.vs = _; rw [HV.out]; simp, HRO.out, rfl, rfl, t7, rfl⟩, hk07.step hY8.2 (fun x hx => .inr (by simp at hx; omega))⟩

set_option maxRecDepth 100000 in
set_option maxHeartbeats 8000000 in
theorem rstep_voted_yes (b vb i : Nat) (r : Rf) (g : Lg) (l : List Bool) (d0 : Int) (w : World) (hT : CT w b vb r g l) (hid : r.id = 0) (hn : r.n = (l.length : Int)) (hi0 : 0 < i) (hi1 : i < l.length) (h7 : l.length ≤ 7) (hyes : r.n < 2 * (yes (l.set i true) : Int)) (hg0 : 0 ≤ g.base) (hg1 : g.last < 800000) (hgb : g.base ≤ r.cm) (hgc : r.cm ≤ g.last) :
    Calls Tryd.prog 8 #[.pointer (some ⟨b, 0, none⟩), .agg (wmsg (i : Int) r.tm).toArray, .int .i64 d0] w fun e w' => ∃ v pb, e = .returned v ∧ w.heap.size ≤ pb ∧ RT w' b pb (r.ledN pb 0 l.length g).bare (g.snoc ⟨r.tm, 0, 0, 0, ⟨#[]⟩⟩) (ledPs 0 l.length g.last) [] ∧ Keeps [b, vb, r.lg] w w' := by
  have hX1 := (Blk.fresh w 49 (wmsg (i : Int) r.tm).toArray).alloc (.cells #[.slice none 0 0, .int .u64 0, .int .i64 0, .int .u64 0, .slice none 0 0, .slice none 0 0] 36)
  have hY1 := Blk.fresh_at (w.alloc (.cells (wmsg (i : Int) r.tm).toArray 49)) 36 #[.slice none 0 0, .int .u64 0, .int .i64 0, .int .u64 0, .slice none 0 0, .slice none 0 0] (n := w.heap.size + 1) (by simp)
  have hk1 := ((Keeps.refl [] w).alloc (.cells (wmsg (i : Int) r.tm).toArray 49)).alloc (.cells #[.slice none 0 0, .int .u64 0, .int .i64 0, .int .u64 0, .slice none 0 0, .slice none 0 0] 36)
  have hT1 := hT.keep0 hk1
  have hbw := hT.B.lt
  have hvw := hT.V.lt
  have hlw := hT.L.lt
  have n1 : ¬ ((i : Int) < 0) := by omega
  have n2 : ¬ ((l.length : Int) ≤ (i : Int)) := by omega
  have n3 : ((i : Int) == 0) = false := by simp; omega
  have n4 : ¬ (l.length ≤ i) := by omega
  have n5 : (i : Int) < (l.length : Int) := by omega
  clear hT
  go_enter Tryd.func8, Tryd.ntmps8
  go_upto_region 1 with (fail)
  generalize World.alloc (World.alloc w _) _ = w1 at *
  generalize hye : w.heap.size + 1 = yb at *
  generalize hxe : w.heap.size = xb at *
  have hxy : xb ≠ yb := by omega
  have hby : b ≠ yb := by omega
  have hvy : vb ≠ yb := by omega
  have hc := hT1.B.cell
  simp only [Rf.cells, hid, hn, hT1.ro, hT1.vs] at hc
  have hcX := hX1.cell
  simp only [wmsg] at hcX
  have hlB := hT1.B.lt
  have hlX := hX1.lt
  go_quiet (fail)
  have hX2 := hX1.drewN nq
  have hY2 := hY1.drewN nq
  have hT2 := hT1.keep0 ((Keeps.refl [] w1).drewN nq)
  have hk2 := hk1.drewN nq
  generalize World.drewN w1 nq = w2 at *
  clear hc hcX hlB hlX hX1 hY1 hT1 hk1
  have hc := hT2.B.cell
  simp only [Rf.cells, hid, hn, hT2.ro, hT2.vs] at hc
  have hcX := hX2.cell
  simp only [wmsg] at hcX
  have hlB := hT2.B.lt
  have hlX := hX2.lt
  go_upto_region 3 with (fail)
  go_quiet (fail)
  have hX3 := hX2.drewN nq
  have hY3 := hY2.drewN nq
  have hT3 := hT2.keep0 ((Keeps.refl [] w2).drewN nq)
  have hk3 := hk2.drewN nq
  generalize World.drewN w2 nq = w3 at *
  clear hc hcX hlB hlX hX2 hY2 hT2 hk2
  have hc := hT3.B.cell
  simp only [Rf.cells, hid, hn, hT3.ro, hT3.vs] at hc
  have hcX := hX3.cell
  simp only [wmsg] at hcX
  have hlB := hT3.B.lt
  have hlX := hX3.lt
  go_upto_region 9 with (fail)
  go_quiet (fail)
  have hX4 := hX3.drewN nq
  have hY4 := hY3.drewN nq
  have hT4 := hT3.keep0 ((Keeps.refl [] w3).drewN nq)
  have hk4 := hk3.drewN nq
  generalize World.drewN w3 nq = w4 at *
  clear hc hcX hlB hlX hX3 hY3 hT3 hk3
  have hc := hT4.B.cell
  simp only [Rf.cells, hid, hn, hT4.ro, hT4.vs] at hc
  have hcX := hX4.cell
  simp only [wmsg] at hcX
  have hlB := hT4.B.lt
  have hlX := hX4.lt
  have hbv : b ≠ vb := hT4.B.ne hT4.V (by decide)
  have hlv : r.lg ≠ vb := by obtain ⟨_, _, hLb, _, _⟩ := hT4.L; exact hLb.ne hT4.V (by decide)
  have hlb : r.lg ≠ b := by obtain ⟨_, _, hLb, _, _⟩ := hT4.L; exact hLb.ne hT4.B (by decide)
  have hcV := bls_cell hT4.V (List.getElem?_eq_getElem hi1)
  have hlV := hT4.V.lt
  have hfV := hT4.V.free
  go_upto_region 18 with (fail)
  refine wp_region_still_tail 7 (by kernel_rfl) (by kernel_rfl) ?_
  change wpStill _ _ (World.drew _) _ _ _
  simp only [List.take_succ_cons, List.take_zero, List.drop_succ_cons, List.drop_zero]
  repeat still_step
  refine wpStill_nil ?_
  change wpList _ _ _ _ _ (World.drew _)
  go_upto_region 19 with (fail)
  have hks := ((Keeps.refl [vb] w4).set (p := ⟨vb, i, none⟩) (by simp) (.bool true)).drew
  have hV5 := ((hT4.V.put i (.bool true)).eq (cs' := (bls (l.set i true)).toArray) (bls_set l i true)).drew
  have hB5 := (hT4.B.other (p := ⟨vb, i, none⟩) hbv (.bool true)).drew
  have hL5 := hT4.L.keepB hks hT4.V (by intro v hv s e; subst e; simp [bls] at hv) hlv
  have hY5 := hY4.keep hks (by simpa using fun e => hvy e.symm)
  have hk5 : Keeps [b, vb] w (w4.setCell ⟨vb, i, none⟩ (.bool true)).drew := hk4.of_nil.trans (hks.mono (by intro x hx; simp at hx; simp [hx]))
  obtain ⟨t3, t4, t5, t6, t7, t8⟩ : r.vs = (some ⟨vb, 0, none⟩, l.length, l.length) ∧ r.ro = 1 ∧ r.ms = (none, 0, 0) ∧ r.dn = (none, 0, 0) ∧ r.rs = (none, 0, 0) ∧ r.fr = 0 := ⟨hT4.vs, hT4.ro, hT4.ms, hT4.dn, hT4.rs, hT4.fr⟩
  generalize World.drew (World.setCell w4 _ _) = w5 at *
  clear hc hcX hlB hlX hcV hlV hfV hT4 hX4 hY4 hk4 hks
  have hvs5 : Votes w5 vb r (l.set i true) := ⟨hV5, by rw [t3]; simp⟩
  have hlB := hB5.lt
  have HE := Lib.hid (relected_yes b vb 0 l.length r g (l.set i true) w5 hB5 hvs5 (by simpa using h7) hyes hL5 hid hn (by omega) h7 t8 t5 hg0 hg1 hgb hgc)
  have hs5 := hk5.size
  rw [hxe] at hs5
  have hyw := hY5.lt
  have hyl : yb ≠ r.lg := by omega
  clear t3 t4 t5 t6 t7 t8 hyes hvs5 hV5 hB5 hL5 hg0 hg1 hgb hgc
  go_wp2_with fail
  refine HE.out.mono ?_
  rintro e w6 ⟨pb, N, ao, c, ys, rfl, hpw, hNw, hR6, hO6, hF6, hk56⟩
  clear HE hlB
  have hY6 := hY5.keep hk56 (by simp; omega)
  have hk6 : Keeps [b, vb, r.lg] w w6 := (hk5.mono (by intro x hx; simp at hx ⊢; omega)).trans (hk56.mono (by intro x hx; simp at hx ⊢; omega))
  clear hY5 hk5 hk56 hF6
  have hpb6 : xb ≤ pb := by omega
  have hB6 := hR6.B
  have hbp := hR6.ne
  have hlB := hB6.lt
  obtain ⟨r2, hr2⟩ : ∃ r2 : Rf, r2 = { r.ledN pb 0 l.length g with ms := (ao, (oth 0 l.length).length, c) } := ⟨_, rfl⟩
  rw [← hr2] at hR6 hB6
  have hrb : r2.bare = (r.ledN pb 0 l.length g).bare := by rw [hr2]; rfl
  have HRB := Lib.hid hrb
  have hrs2 : r2.bare.rs = (none, 0, 0) := by rw [hrb]; rfl
  have HRS := Lib.hid hrs2
  clear hrb hrs2 hr2 hO6
  go_wp2_with fail
  refine (rready b _ w6 hB6).mono ?_
  rintro e w7 ⟨rfl, hB7, hk7⟩
  have hY7 := hY6.keep hk7 (by simpa using fun e => hby e.symm)
  have hP7 := hR6.P.keep hk7 (by simpa using fun e => hbp e.symm)
  have hlgb : r2.lg ≠ b := fun e => by have := hR6.L.notX; simp [e] at this
  have hL7 := hR6.L.at.keepB hk7 hB6 r2.nostr hlgb
  have hk07 := hk6.trans (hk7.mono (L' := [b, vb, r.lg]) (by intro x hx; simp at hx; simp [hx]))
  have hps7 := hR6.hps
  clear hY6 hB6 hk6 hk7 hR6
  obtain ⟨m1, m2, m3, y1, y2, y3, n1, n2, n3, p1, p2, p3, ho⟩ := Rf.out6 r2
  rw [ho]
  clear ho
  have hcY := hY7.cell
  have hlY := hY7.lt
  have hfY := hY7.free
  go_wp2_with fail
  have hY8 := put6 hY7 (.slice m1 m2 m3) (.int .u64 y1) (.int .i64 y2) (.int .u64 y3) (.slice n1 n2 n3) (.slice p1 p2 p3)
  generalize World.setCell (World.setCell _ _ _) ⟨yb, 5, none⟩ _ = w8 at *
  have hlgy : r2.lg ≠ yb := by obtain ⟨_, _, hLb, _, _⟩ := hL7; exact hLb.ne hY7 (by decide)
  have hB8 := hB7.keep hY8.2 (by simpa using hby)
  have hP8 := hP7.keep hY8.2 (by simpa using hP7.ne hY7 (by decide))
  have hL8 := hL7.keepB hY8.2 hY7 (by intro v hv s e; subst e; simp at hv) hlgy
  refine bodyPost_ret (results_c rfl rfl hY8.1 Tryd.underlying36 rfl Tryd.sizeRE) rfl ⟨_, pb, rfl, by omega, ?_, hk07.step hY8.2 (fun x hx => .inr (by simp at hx; omega))⟩
  rw [← HRB.out]
  exact ⟨RC.of hB8 hP8 hL8 hps7, by rw [HRS.out]; exact QsAt.nil _ _ _, rfl, rfl, rfl⟩

end Go.Proofs.YtdeaelbelcjhcaaDoor
