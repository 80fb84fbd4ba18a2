/- A node of raft that is alone: Propose. -/
import Derived.Test.YtdeaelbelcjhcaaDoorRaft6

namespace Go.Proofs.YtdeaelbelcjhcaaDoor
open Go.RowKit

theorem results_tct {P : Program} {w : World} {fn : Func} {tmps : Array Value} {p u v : Tmp} {ty t : TypeId} {b : Nat} {cs : Array Value} {d : TypeDesc} (h : fn.results = #[.tmp u, .cell p ty, .tmp v]) (hp : tmps.getD p undef = .pointer (some ⟨b, 0, none⟩)) (hB : Blk w b t cs) (hu : P.underlying ty = some d)
    (hd : (match d with | .struct _ | .array _ _ => true | _ => false) = true) (hsz : (P.info? ty).map (·.size) = some cs.size) :
    (results fn tmps).run P w = .ok (.tuple #[tmps.getD u undef, .agg cs, tmps.getD v undef]) w := by
  have hp' : tmps[p]?.getD undef = .pointer (some ⟨b, 0, none⟩) := by simpa using hp
  simp [results, h, hp', asAddr, run_load_whole hB hu hd hsz]

set_option maxRecDepth 100000 in
set_option maxHeartbeats 8000000 in
theorem rpropose1 (b pb : Nat) (r : Rf) (g : Lg) (nx mt ak cl sq : Int) (sql : ByteArray) (w : World) (hB : Blk w b 63 r.cells) (hP : Blk w pb 78 (peer nx mt ak)) (hL : LogAt w r.lg g) (h0 : r.id = 0) (h1 : r.n = 1) (hro : r.ro = 2) (hf0 : r.fr = 0) (hps : r.ps = (some ⟨pb, 0, none⟩, 1, 1)) (hg0 : 0 ≤ g.base) (hg1 : g.last < 900000) (hgc : r.cm = g.last) :
    Calls Tryd.prog 12 #[.pointer (some ⟨b, 0, none⟩), .int .u64 cl, .int .u64 sq, .string sql] w fun e w' => e = .returned (.tuple #[.int .u64 (g.last + 1), .agg ({ r with fr := g.last + 1 } : Rf).out, .nilIface]) ∧
      Blk w' b 63 ({ r with cm := g.last + 1 } : Rf).bare.cells ∧ Blk w' pb 78 (peer nx (g.last + 1) ak) ∧ LogAt w' r.lg { g with es := g.es ++ [⟨r.tm, 1, cl, sq, sql⟩] } ∧ Keeps [b, pb, r.lg] w w' := by
  have hbl : b ≠ r.lg := by rintro rfl; obtain ⟨_, _, hL0, _, _⟩ := hL; exact absurd rfl (hB.ne hL0 (by decide))
  have hpl : pb ≠ r.lg := by rintro rfl; obtain ⟨_, _, hL0, _, _⟩ := hL; exact absurd rfl (hP.ne hL0 (by decide))
  have hbp : b ≠ pb := hB.ne hP (by decide)
  have hX1 := Blk.fresh w 36 #[.slice none 0 0, .int .u64 0, .int .i64 0, .int .u64 0, .slice none 0 0, .slice none 0 0]
  have hk1 := (Keeps.refl [b, pb, r.lg] w).alloc (.cells #[.slice none 0 0, .int .u64 0, .int .i64 0, .int .u64 0, .slice none 0 0, .slice none 0 0] 36)
  have hB1 := hB.alloc (.cells #[.slice none 0 0, .int .u64 0, .int .i64 0, .int .u64 0, .slice none 0 0, .slice none 0 0] 36)
  have hP1 := hP.alloc (.cells #[.slice none 0 0, .int .u64 0, .int .i64 0, .int .u64 0, .slice none 0 0, .slice none 0 0] 36)
  have hL1 := hL.keep0 ((Keeps.refl [] w).alloc (.cells #[.slice none 0 0, .int .u64 0, .int .i64 0, .int .u64 0, .slice none 0 0, .slice none 0 0] 36))
  have hxb : w.heap.size ≠ b := by have := hB.lt; omega
  have hxp : w.heap.size ≠ pb := by have := hP.lt; omega
  have hxl : w.heap.size ≠ r.lg := by have := hL.lt; omega
  have hxw : ∀ n, n = w.heap.size → w.heap.size ≤ n := fun _ e => Nat.le_of_eq e.symm
  go_enter Tryd.func12, Tryd.ntmps12
  go_upto_region 1 with (fail)
  generalize World.alloc w _ = w1 at *
  clear hB hP hL
  go_wp2_with fail
  refine (rleading b r w1 hB1 hro).mono ?_
  rintro e w' ⟨rfl, rfl⟩
  have hc := hB1.cell
  simp only [Rf.cells] at hc
  have hl := hB1.lt
  go_wp2_with fail
  refine (llastt r.lg g _ hL1 hg0 (by omega)).mono ?_
  rintro e w2 ⟨rfl, hk2⟩
  have hX2 := hX1.keep hk2 (by simp)
  have hB2 := hB1.keep hk2 (by simp)
  have hP2 := hP1.keep hk2 (by simp)
  have hL2 := hL1.keep0 hk2
  have hk02 := hk1.trans hk2.of_nil
  clear hc hl hX1 hB1 hP1 hL1 hk1 hk2
  have hc := hB2.cell
  simp only [Rf.cells, hgc] at hc
  have hl := hB2.lt
  have q0 : IntKind.u64.wrap 0 = 0 := IntWalk.u64_in _ (by omega)
  go_wp2_with fail
  refine (radds1 b pb r g nx mt ak ⟨0, 1, cl, sq, sql⟩ w2 hB2 hP2 hL2 h0 hf0 hps hg0 (by omega)).mono ?_
  rintro e w3 ⟨rfl, hB3, hP3, hL3, hk3⟩
  have hX3 := hX2.keep hk3 (by simp [hxb, hxp, hxl])
  have hk03 := hk02.trans hk3
  clear hc hl hX2 hB2 hP2 hL2 hk02 hk3
  have C := rcounts1 b pb _ { g with es := g.es ++ [⟨r.tm, 1, cl, sq, sql⟩] } nx ak w3 hB3 (by rw [Lg.last_snoc]; exact hP3) hL3 h1 hps hg0 (by rw [Lg.last_snoc]; omega) (by rw [Lg.last_snoc]; simp only []; omega) (by rw [Lg.last_snoc, Lg.at_snoc])
  rw [Lg.last_snoc] at C
  go_wp2_with fail
  refine C.mono ?_
  rintro e w4 ⟨rfl, hB4, hk4⟩
  have hX4 := hX3.keep hk4 (by simpa using hxb)
  have hP4 := hP3.keep hk4 (by simpa using fun e => hbp e.symm)
  have hL4 := hL3.keepB hk4 hB3 (Rf.nostr _) (fun e => hbl e.symm)
  have hk04 := hk03.trans (hk4.mono (L' := [b, pb, r.lg]) (by intro x hx; simp at hx; simp [hx]))
  clear C hX3 hB3 hP3 hL3 hk03 hk4
  go_wp2_with fail
  refine (rfeedsAll1 b _ w4 hB4 h0 h1).mono ?_
  rintro e w' ⟨rfl, rfl⟩
  go_wp2_with fail
  refine (rready b _ _ hB4).mono ?_
  rintro e w5 ⟨rfl, hB5, hk5⟩
  have hX5 := hX4.keep hk5 (by simpa using hxb)
  have hP5 := hP4.keep hk5 (by simpa using fun e => hbp e.symm)
  have hL5 := hL4.keepB hk5 hB4 (Rf.nostr _) (fun e => hbl e.symm)
  have hk05 := hk04.trans (hk5.mono (L' := [b, pb, r.lg]) (by intro x hx; simp at hx; simp [hx]))
  clear hX4 hB4 hP4 hL4 hk04 hk5
  obtain ⟨m1, m2, m3, y1, y2, y3, n1, n2, n3, p1, p2, p3, ho⟩ : ∃ m1 m2 m3 y1 y2 y3 n1 n2 n3 p1 p2 p3, Rf.out ({ ({ r with fr := g.last + 1 } : Rf) with cm := g.last + 1 } : Rf) = #[.slice m1 m2 m3, .int .u64 y1, .int .i64 y2, .int .u64 y3, .slice n1 n2 n3, .slice p1 p2 p3] := ⟨_, _, _, _, _, _, _, _, _, _, _, _, rfl⟩
  have ho' : Rf.out ({ r with fr := g.last + 1 } : Rf) = #[.slice m1 m2 m3, .int .u64 y1, .int .i64 y2, .int .u64 y3, .slice n1 n2 n3, .slice p1 p2 p3] := ho
  rw [ho]
  clear ho
  have HO := Lib.hid ho'
  clear ho'
  have hcX := hX5.cell
  have hlX := hX5.lt
  have hfX := hX5.free
  have hX6 := put6 hX5 (.slice m1 m2 m3) (.int .u64 y1) (.int .i64 y2) (.int .u64 y3) (.slice n1 n2 n3) (.slice p1 p2 p3)
  generalize hxe : w.heap.size = xb at *
  have HX := Lib.hid hX6
  clear hX6
  go_wp2_with fail
  have hX6 := HX.out
  generalize World.setCell (World.setCell _ _ _) ⟨xb, 5, none⟩ _ = w6 at *
  exact bodyPost_ret (results_tct rfl rfl hX6.1 Tryd.underlying36 rfl Tryd.sizeRE) rfl
    ⟨by rw [HO.out]; rfl, hB5.keep hX6.2 (by simpa using fun e => hxb e.symm), hP5.keep hX6.2 (by simpa using fun e => hxp e.symm), hL5.keepB hX6.2 hX5 (by intro v hv s e; subst e; simp at hv) (fun e => hxl e.symm), hk05.step hX6.2 (by intro x hx; simp at hx; right; omega)⟩
end Go.Proofs.YtdeaelbelcjhcaaDoor
