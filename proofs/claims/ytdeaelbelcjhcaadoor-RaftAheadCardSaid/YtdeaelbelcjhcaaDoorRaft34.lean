/- A node of a group that leads: Propose. -/
import Derived.Test.YtdeaelbelcjhcaaDoorRaft33
import Derived.Test.YtdeaelbelcjhcaaDoorRaft7


namespace Go.Proofs.YtdeaelbelcjhcaaDoor
open Go.RowKit

theorem QsAt.keepNil {w w' : World} {N : Nat} {X L : List Nat} {s : Sl3} (h : QsAt w N X s []) (hk : Keeps L w w') : QsAt w' N X s [] :=
  ⟨h.sl.keep hk (fun _ _ hx => absurd rfl hx), h.len, h.away⟩
theorem QsAt.anyNil {w : World} {N N' : Nat} {X X' : List Nat} {s : Sl3} (h : QsAt w N X s []) : QsAt w N' X' s [] := ⟨h.sl, h.len, fun _ _ hx => absurd rfl hx⟩

set_option maxRecDepth 100000 in
set_option maxHeartbeats 8000000 in
theorem rpropose (b pb id : Nat) (r : Rf) (g : Lg) (ps : List Pe) (p : Pe) (cl sq : Int) (sql : ByteArray) (w : World) (hT : RT w b pb r g ps []) (hid : r.id = (id : Int)) (hn : r.n = (ps.length : Int)) (h7 : ps.length ≤ 7) (hp : ps[id]? = some p) (hro : r.ro = 2)
    (hg0 : 0 ≤ g.base) (hg1 : g.last < 800000) (hgb : g.base ≤ r.cm) (hgc : r.cm ≤ g.last) (hah : g.last - r.cm < 64) (hnx : ∀ j q, ps[j]? = some q → j ≠ id → g.base < q.nx ∧ q.nx ≤ g.last + 1) :
    Calls Tryd.prog 12 #[.pointer (some ⟨b, 0, none⟩), .int .u64 cl, .int .u64 sq, .string sql] w fun e w' => ∃ (rr : Rf) (s : Sl3), e = .returned (.tuple #[.int .u64 (g.last + 1), .agg rr.out, .nilIface]) ∧
      RT w' b pb ({ r with cm := counted r (g.snoc ⟨r.tm, 1, cl, sq, sql⟩) (ps.set id { p with mt := g.last + 1 }), rs := s } : Rf).bare (g.snoc ⟨r.tm, 1, cl, sq, sql⟩) (ps.set id { p with mt := g.last + 1 }) [] ∧ Keeps [b, pb, r.lg] w w' := by
  obtain ⟨g', hg'⟩ : ∃ g', g' = g.snoc ⟨r.tm, 1, cl, sq, sql⟩ := ⟨_, rfl⟩
  obtain ⟨ps', hps'⟩ : ∃ ps', ps' = ps.set id { p with mt := g.last + 1 } := ⟨_, rfl⟩
  rw [← hg', ← hps']
  obtain ⟨C, hC⟩ : ∃ C, counted r g' ps' = C := ⟨_, rfl⟩
  rw [hC]
  have HGP := Lib.hid (And.intro hg' (And.intro hps' hC))
  clear hg' hps' hC
  have hX1 := Blk.fresh w 36 #[.slice none 0 0, .int .u64 0, .int .i64 0, .int .u64 0, .slice none 0 0, .slice none 0 0]
  have hk1 := (Keeps.refl [b, pb, r.lg] w).alloc (.cells #[.slice none 0 0, .int .u64 0, .int .i64 0, .int .u64 0, .slice none 0 0, .slice none 0 0] 36)
  have hT1 := hT.keep0 ((Keeps.refl [] w).alloc (.cells #[.slice none 0 0, .int .u64 0, .int .i64 0, .int .u64 0, .slice none 0 0, .slice none 0 0] 36))
  have hbw := hT.R.bN
  have hpw := hT.R.pN
  have hlw := hT.R.L.ltN
  clear hT
  go_enter Tryd.func12, Tryd.ntmps12
  go_upto_region 1 with (fail)
  generalize World.alloc w _ = w1 at *
  generalize hxe : w.heap.size = xb at *
  go_wp2_with fail
  refine (rleading b r w1 hT1.R.B hro).mono ?_
  rintro e w' ⟨rfl, hw⟩
  obtain rfl := hw.symm
  clear hw
  have hc := hT1.R.B.cell
  simp only [Rf.cells] at hc
  have hl := hT1.R.B.lt
  go_wp2_with fail
  refine (llastt r.lg g _ hT1.R.L.at hg0 (by omega)).mono ?_
  rintro e w2 ⟨rfl, hk2⟩
  have hX2 := hX1.keep hk2 (by simp)
  have hT2 := hT1.keep0 hk2
  have hk02 := hk1.trans hk2.of_nil
  clear hc hl hX1 hT1 hk1 hk2
  generalize g.at g.last = gt at *
  have hc := hT2.R.B.cell
  simp only [Rf.cells] at hc
  have hl := hT2.R.B.lt
  have q0 : IntKind.u64.wrap (g.last - r.cm) = g.last - r.cm := IntWalk.u64_in _ (by omega)
  have q1 : ¬ (64 ≤ g.last - r.cm) := by omega
  have HA := Lib.hid (radds b pb r g ps id p ⟨0, 1, cl, sq, sql⟩ w2 hT2.R hid hp hT2.fr hg0 (by omega))
  go_wp2_with fail
  refine HA.out.mono ?_
  rintro e w3 ⟨rfl, hR3, hk3⟩
  have hQ3 := hT2.Q.keepNil hk3
  have hms := hT2.ms
  have hdn := hT2.dn
  have hX3 := hX2.keep hk3 (by simp; omega)
  have hk03 := hk02.trans hk3
  clear hc hl hX2 hT2 hk02 hk3 HA q0 q1
  obtain ⟨hg', hps', hC⟩ := HGP.out
  have hR3' : RC w3 w3.heap.size b pb { r with fr := g.last + 1 } g' ps' := by rw [hg', hps']; exact hR3
  have hgl : g'.last = g.last + 1 := by rw [hg', Lg.snoc_last]
  have hgb' : g'.base = g.base := by rw [hg']; rfl
  have hlen : ps'.length = ps.length := by rw [hps']; simp
  have hnx' : ∀ j q, ps'[j]? = some q → j ≠ id → g'.base < q.nx ∧ q.nx ≤ g'.last + 1 := by
    intro j q hq hj
    rw [hps', List.getElem?_set_ne (fun e => hj e.symm)] at hq
    have := hnx j q hq hj
    rw [hgb', hgl]
    omega
  clear hR3 hg' hps' hC
  have HC := Lib.hid (rcounts w3.heap.size b pb { r with fr := g.last + 1 } g' ps' w3 hR3' (by rw [hlen]; exact hn) (by rw [hlen]; exact h7) (by rw [hgb']; exact hg0) (by rw [hgl]; omega) (by rw [hgb']; exact hgb) (by rw [hgl]; show r.cm ≤ _; omega))
  have hl := hR3'.B.lt
  go_wp2_with fail
  refine HC.out.mono ?_
  rintro e w4 ⟨rfl, hR4, hk4⟩
  have hcu : counted ({ r with fr := g.last + 1 } : Rf) g' ps' = C := HGP.out.2.2
  rw [hcu] at hR4
  have hQ4 := hQ3.keepNil hk4
  have hX4 := hX3.keep hk4 (by simp; omega)
  have hk04 := hk03.trans (hk4.mono (L' := [b, pb, r.lg]) (by intro x hx; simp at hx; simp [hx]))
  clear HC hl hX3 hR3' hk03 hk4 hQ3 hcu
  have HF := Lib.hid (rfeedsAll b pb _ g' ps' id w4 (hR4.grow hR4.size (Nat.le_refl _)) hms (by exact hid) (by rw [hlen]; exact hn) (by rw [hlen]; exact h7) hnx' (by rw [hgb']; exact hg0) (by rw [hgl]; omega))
  have hl := hR4.B.lt
  go_wp2_with fail
  refine HF.out.mono ?_
  rintro e w5 ⟨ao, c, ys, rfl, hR5, hO5, hF5, hk5⟩
  have hQ5 := hQ4.keepNil hk5
  have hX5 := hX4.keep hk5 (by simp; omega)
  have hk05 := hk04.trans (hk5.mono (L' := [b, pb, r.lg]) (by intro x hx; simp at hx; simp [hx]))
  clear HF hl hX4 hR4 hk04 hk5 hQ4 hF5 hO5
  obtain ⟨r2, hr2⟩ : ∃ r2 : Rf, r2 = { ({ r with fr := g.last + 1, cm := C } : Rf) with ms := (ao, (oth id ps'.length).length, c) } := ⟨_, rfl⟩
  have hR6 : RC w5 w4.heap.size b pb r2 g' ps' := by rw [hr2]; exact hR5
  have hrb : r2.bare = ({ r with cm := C, rs := r.rs } : Rf).bare := by rw [hr2]; rfl
  have hrs2 : r2.bare.rs = r.rs := by rw [hrb]; rfl
  have HRB := Lib.hid (And.intro hrb hrs2)
  clear hr2 hrb hrs2 hR5
  have hbp := hR6.ne
  have hl := hR6.B.lt
  go_wp2_with fail
  refine (rready b r2 w5 hR6.B).mono ?_
  rintro e w7 ⟨rfl, hB7, hk7⟩
  have hX7 := hX5.keep hk7 (by simp; omega)
  have hP7 := hR6.P.keep hk7 (by simpa using fun e => hbp e.symm)
  have hlgb : r2.lg ≠ b := fun e => by have := hR6.L.notX; simp [e] at this
  have hL7 := hR6.L.at.keepB hk7 hR6.B r2.nostr hlgb
  have hQ7 := hQ5.keepNil hk7
  have hk07 := hk05.trans (hk7.mono (L' := [b, pb, r.lg]) (by intro x hx; simp at hx; simp [hx]))
  have hps7 := hR6.hps
  clear hX5 hk05 hk7 hR6 hl hQ5
  obtain ⟨m1, m2, m3, y1, y2, y3, n1, n2, n3, p1, p2, p3, ho⟩ := Rf.out6 r2
  have HO := Lib.hid ho
  rw [ho]
  clear ho
  have hcX := hX7.cell
  have hlX := hX7.lt
  have hfX := hX7.free
  have HX := Lib.hid (put6 hX7 (.slice m1 m2 m3) (.int .u64 y1) (.int .i64 y2) (.int .u64 y3) (.slice n1 n2 n3) (.slice p1 p2 p3))
  go_wp2_with fail
  have hX8 := HX.out
  generalize World.setCell (World.setCell _ _ _) ⟨xb, 5, none⟩ _ = w8 at *
  have hlgy : r2.lg ≠ xb := by obtain ⟨_, _, hLb, _, _⟩ := hL7; exact hLb.ne hX7 (by decide)
  have hB8 := hB7.keep hX8.2 (by simp; omega)
  have hP8 := hP7.keep hX8.2 (by simp; omega)
  have hL8 := hL7.keepB hX8.2 hX7 (by intro v hv s e; subst e; simp at hv) hlgy
  refine bodyPost_ret (results_tct rfl rfl hX8.1 Tryd.underlying36 rfl Tryd.sizeRE) rfl ⟨r2, r.rs, by rw [HO.out]; rfl, ?_, hk07.step hX8.2 (fun x hx => .inr (by simp at hx; omega))⟩
  rw [← HRB.out.1]
  exact ⟨RC.of hB8 hP8 hL8 hps7, by rw [HRB.out.2]; exact (hQ7.keepNil hX8.2).anyNil, rfl, rfl, rfl⟩
end Go.Proofs.YtdeaelbelcjhcaaDoor
