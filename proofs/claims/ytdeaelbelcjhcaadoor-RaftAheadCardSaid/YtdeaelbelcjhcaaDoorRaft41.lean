/- A node of a group that leads and hears of nobody: Read and Propose that must wait; RaftAhead. -/
import Derived.Test.YtdeaelbelcjhcaaDoorRaft35
import Derived.Test.YtdeaelbelcjhcaaDoorRaft12
import Derived.Test.YtdeaelbelcjhcaaDoorErrY


namespace Go.Proofs.YtdeaelbelcjhcaaDoor
open Go.RowKit

theorem rfault (p : ByteArray) (c : Int) (w : World) :
    Calls Tryd.prog 15 #[.string p, .int .i64 c] w fun e w' => ∃ g, e = .returned (.iface 86 (.pointer (some ⟨g, 0, none⟩))) ∧ g = w.heap.size ∧ Blk w' g 88 #[.string p, .iface 41 (.int .i64 c)] ∧ Keeps [] w w' := by
  go_enter Tryd.func15, Tryd.ntmps15
  go_wp2
  go_ret
  exact ⟨_, rfl, rfl, Blk.fresh _ _ _, (Keeps.refl [] w).alloc _⟩

set_option maxRecDepth 100000 in
set_option maxHeartbeats 8000000 in
theorem rread_wait (b pb : Nat) (r : Rf) (g : Lg) (ps : List Pe) (rl : List Rq) (tag : Int) (w : World) (hT : RT w b pb r g ps rl) (hro : r.ro = 2) (hg0 : 0 ≤ g.base) (hg1 : g.last < 800000) (hgb : g.base ≤ r.cm) (hgc : r.cm ≤ g.last) (hat : g.at r.cm ≠ r.tm) :
    Calls Tryd.prog 10 #[.pointer (some ⟨b, 0, none⟩), .int .u64 tag] w fun e w' => ∃ gg p, e = .returned (.tuple #[.agg #[.slice none 0 0, .int .u64 0, .int .i64 0, .int .u64 0, .slice none 0 0, .slice none 0 0], .iface 86 (.pointer (some ⟨gg, 0, none⟩))]) ∧ Blk w' gg 88 #[.string p, .iface 41 (.int .i64 52)] ∧ Keeps [] w w' := by
  have hX1 := Blk.fresh w 36 #[.slice none 0 0, .int .u64 0, .int .i64 0, .int .u64 0, .slice none 0 0, .slice none 0 0]
  have hk1 := (Keeps.refl [] w).alloc (.cells #[.slice none 0 0, .int .u64 0, .int .i64 0, .int .u64 0, .slice none 0 0, .slice none 0 0] 36)
  have hT1 := hT.keep0 hk1
  clear hT
  go_enter Tryd.func10, Tryd.ntmps10
  go_upto_region 1 with (fail)
  generalize World.alloc w _ = w1 at *
  generalize hxe : w.heap.size = xb at *
  go_wp2_with fail
  refine (rleading b r w1 hT1.R.B hro).mono ?_
  rintro e w' ⟨rfl, hw⟩
  obtain rfl := hw.symm
  clear hw
  have hc := hT1.R.B.cell
  simp only [Rf.cells] at hc
  have hl := hT1.R.B.lt
  have HT := Lib.hid (fun m => lterm_any r.lg g r.cm (w1.drewN m) (hT1.R.L.at.keep0 ((Keeps.refl [] w1).drewN m)) hg0 (by omega) hgb hgc)
  obtain ⟨t0, ht0⟩ : ∃ t0, g.at r.cm = t0 := ⟨_, rfl⟩
  rw [ht0] at hat HT
  have hne : (t0 == r.tm) = false := by simpa using hat
  clear hat ht0
  go_upto_region 4 with (fail)
  go_quiet ((go_at_call 31; exact Calls.quiet_of (HT.out _)))
  have hT2 := hT1.keep0 ((Keeps.refl [] w1).drewN nq)
  have hX2 := hX1.drewN nq
  have hk2 := hk1.drewN nq
  generalize World.drewN w1 nq = w2 at *
  clear hc hl hT1 hX1 hk1 HT
  have hc := hT2.R.B.cell
  simp only [Rf.cells] at hc
  have hl := hT2.R.B.lt
  go_wp2_with fail
  refine (rfault _ _ _).mono ?_
  rintro e w3 ⟨gg, rfl, hgg, hE, hk3⟩
  have hX3 := hX2.keep hk3 (by simp)
  have hk03 := hk2.trans hk3
  have hgx : gg ≠ xb := by have := hX2.lt; omega
  clear hX2 hk2 hk3 hT2 hc hl
  have hcX := hX3.cell
  have hlX := hX3.lt
  have hfX := hX3.free
  have HX := Lib.hid (put6 hX3 (.slice none 0 0) (.int .u64 0) (.int .i64 0) (.int .u64 0) (.slice none 0 0) (.slice none 0 0))
  clear hgg
  go_wp2_with fail
  have hX4 := HX.out
  generalize World.setCell (World.setCell _ _ _) ⟨xb, 5, none⟩ _ = w4 at *
  exact bodyPost_ret (results_ct rfl rfl hX4.1 Tryd.underlying36 rfl Tryd.sizeRE) rfl ⟨gg, _, rfl, hE.keep hX4.2 (by simpa using hgx), hk03.step hX4.2 (fun x hx => .inr (by simp at hx; omega))⟩

set_option maxRecDepth 100000 in
set_option maxHeartbeats 8000000 in
theorem rpropose_wait (b pb : Nat) (r : Rf) (g : Lg) (ps : List Pe) (rl : List Rq) (cl sq : Int) (sql : ByteArray) (w : World) (hT : RT w b pb r g ps rl) (hro : r.ro = 2) (hg0 : 0 ≤ g.base) (hg1 : g.last < 800000) (_ : r.cm ≤ g.last) (hc0 : 0 ≤ r.cm) (hah : 64 ≤ g.last - r.cm) :
    Calls Tryd.prog 12 #[.pointer (some ⟨b, 0, none⟩), .int .u64 cl, .int .u64 sq, .string sql] w fun e w' => ∃ gg p, e = .returned (.tuple #[.int .u64 0, .agg #[.slice none 0 0, .int .u64 0, .int .i64 0, .int .u64 0, .slice none 0 0, .slice none 0 0], .iface 86 (.pointer (some ⟨gg, 0, none⟩))]) ∧ Blk w' gg 88 #[.string p, .iface 41 (.int .i64 52)] ∧ Keeps [] w w' := by
  have hX1 := Blk.fresh w 36 #[.slice none 0 0, .int .u64 0, .int .i64 0, .int .u64 0, .slice none 0 0, .slice none 0 0]
  have hk1 := (Keeps.refl [] w).alloc (.cells #[.slice none 0 0, .int .u64 0, .int .i64 0, .int .u64 0, .slice none 0 0, .slice none 0 0] 36)
  have hT1 := hT.keep0 hk1
  clear hT
  go_enter Tryd.func12, Tryd.ntmps12
  go_upto_region 1 with (fail)
  generalize World.alloc w _ = w1 at *
  generalize hxe : w.heap.size = xb at *
  go_wp2_with fail
  refine (rleading b r w1 hT1.R.B hro).mono ?_
  rintro e w' ⟨rfl, hw⟩
  obtain rfl := hw.symm
  clear hw
  have hc := hT1.R.B.cell
  simp only [Rf.cells] at hc
  have hl := hT1.R.B.lt
  go_wp2_with fail
  refine (llastt r.lg g _ hT1.R.L.at hg0 (by omega)).mono ?_
  rintro e w2 ⟨rfl, hk2⟩
  have hX2 := hX1.keep hk2 (by simp)
  have hT2 := hT1.keep0 hk2
  have hk02 := hk1.trans hk2
  clear hc hl hX1 hT1 hk1 hk2
  generalize g.at g.last = gt at *
  have hc := hT2.R.B.cell
  simp only [Rf.cells] at hc
  have hl := hT2.R.B.lt
  have q0 : IntKind.u64.wrap (g.last - r.cm) = g.last - r.cm := IntWalk.u64_in _ (by omega)
  go_wp2_with fail
  refine (rfault _ _ _).mono ?_
  rintro e w3 ⟨gg, rfl, hgg, hE, hk3⟩
  have hX3 := hX2.keep hk3 (by simp)
  have hk03 := hk02.trans hk3
  have hgx : gg ≠ xb := by have := hX2.lt; omega
  clear hX2 hk02 hk3 hT2 hc hl
  have hcX := hX3.cell
  have hlX := hX3.lt
  have hfX := hX3.free
  have HX := Lib.hid (put6 hX3 (.slice none 0 0) (.int .u64 0) (.int .i64 0) (.int .u64 0) (.slice none 0 0) (.slice none 0 0))
  clear hgg
  go_wp2_with fail
  have hX4 := HX.out
  generalize World.setCell (World.setCell _ _ _) ⟨xb, 5, none⟩ _ = w4 at *
  exact bodyPost_ret (results_tct rfl rfl hX4.1 Tryd.underlying36 rfl Tryd.sizeRE) rfl ⟨gg, _, rfl, hE.keep hX4.2 (by simpa using hgx), hk03.step hX4.2 (fun x hx => .inr (by simp at hx; omega))⟩

/-- the leader of the law -/
structure LdA (w : World) (b pb lg j : Nat) (r : Rf) (g : Lg) (p0 p1 p2 : Pe) : Prop where
  S : RT w b pb r g [p0, p1, p2] []
  lg : r.lg = lg
  id : r.id = 0
  n : r.n = 3
  tm : r.tm = 1
  ro : r.ro = 2
  cm : r.cm = 0
  base : g.base = 0
  gtm : g.tm = 0
  last : g.last = (j : Int) + 1
  e1 : p1.mt = 0
  e2 : p2.mt = 0
  n1 : 0 < p1.nx ∧ p1.nx ≤ (j : Int) + 2
  n2 : 0 < p2.nx ∧ p2.nx ≤ (j : Int) + 2
def LdAE (w : World) (b pb lg j : Nat) : Prop := ∃ r g p0 p1 p2, LdA w b pb lg j r g p0 p1 p2
theorem LdAE.keep {w w' : World} {b pb lg j : Nat} {L : List Nat} (h : LdAE w b pb lg j) (hk : Keeps L w w') (hL : ∀ x ∈ L, w.heap.size ≤ x) : LdAE w' b pb lg j := by
  obtain ⟨r, g, p0, p1, p2, h⟩ := h
  exact ⟨r, g, p0, p1, p2, { h with S := h.S.keep hk hL }⟩

theorem lda_begin {w : World} {b vb lg : Nat} (h : CT w b vb ((fol (3 : Nat) 0 lg 0 9 10).cand vb 3 0).bare ⟨0, 0, []⟩ (own1 0 3)) :
    Calls Tryd.prog 8 #[.pointer (some ⟨b, 0, none⟩), .agg (wmsg 1 1).toArray, .int .i64 0] w fun e w' => ∃ v pb, e = .returned v ∧ w.heap.size ≤ pb ∧ LdAE w' b pb lg 0 ∧ Keeps [b, vb, lg] w w' := by
  have hl : (⟨0, 0, []⟩ : Lg).last = 0 := rfl
  have S := rstep_voted_yes b vb 1 _ ⟨0, 0, []⟩ (own1 0 3) 0 w h rfl rfl (by omega) (by rw [own1_len]; omega) (by rw [own1_len]; omega) (by show (3 : Int) < _; decide) (Int.le_refl _) (by rw [hl]; omega) (Int.le_refl _) (by rw [hl]; show (0 : Int) ≤ 0; omega)
  refine S.mono ?_
  rintro e w' ⟨v, pb, rfl, hp, hT, hk⟩
  have hcm : (((((fol (3 : Nat) 0 lg 0 9 10).cand vb 3 0).bare).ledN pb 0 (own1 0 3).length ⟨0, 0, []⟩).bare).cm = 0 :=
    ledN_cm (r := ((fol (3 : Nat) 0 lg 0 9 10).cand vb 3 0).bare) (n := (own1 0 3).length) rfl (by rw [own1_len]; omega) (by rw [own1_len]; omega) (Int.le_refl _) (by rw [hl]; show (0 : Int) ≤ 0; omega)
  have hps : ledPs 0 (own1 0 3).length (⟨0, 0, []⟩ : Lg).last = [⟨1, 1, 1, 0⟩, ⟨1, 0, 0, 0⟩, ⟨1, 0, 0, 0⟩] := rfl
  rw [hps] at hT
  exact ⟨v, pb, rfl, hp, ⟨_, _, _, _, _, { S := hT, lg := rfl, id := rfl, n := rfl, tm := rfl, ro := rfl, cm := hcm, base := rfl, gtm := rfl, last := rfl, e1 := rfl, e2 := rfl, n1 := by simp, n2 := by simp }⟩, hk⟩

theorem lda_role {w : World} {b pb lg j : Nat} (h : LdAE w b pb lg j) : Calls Tryd.prog 9 #[.pointer (some ⟨b, 0, none⟩)] w fun e w' => e = .returned (.int .i64 2) ∧ w' = w := by
  obtain ⟨r, g, p0, p1, p2, h⟩ := h
  have := rrole b r w h.S.R.B
  rwa [h.ro] at this
theorem lda_commit {w : World} {b pb lg j : Nat} (h : LdAE w b pb lg j) : Calls Tryd.prog 13 #[.pointer (some ⟨b, 0, none⟩)] w fun e w' => e = .returned (.int .u64 0) ∧ w' = w := by
  obtain ⟨r, g, p0, p1, p2, h⟩ := h
  have := rcommit b r w h.S.R.B
  rwa [h.cm] at this

theorem lda_read {w : World} {b pb lg j : Nat} (tag : Int) (h : LdAE w b pb lg j) (hj : j ≤ 100) :
    Calls Tryd.prog 10 #[.pointer (some ⟨b, 0, none⟩), .int .u64 tag] w fun e w' => ∃ gg p, e = .returned (.tuple #[.agg #[.slice none 0 0, .int .u64 0, .int .i64 0, .int .u64 0, .slice none 0 0, .slice none 0 0], .iface 86 (.pointer (some ⟨gg, 0, none⟩))]) ∧ Blk w' gg 88 #[.string p, .iface 41 (.int .i64 52)] ∧ Keeps [] w w' := by
  obtain ⟨r, g, p0, p1, p2, h⟩ := h
  have hl := h.last
  exact rread_wait b pb r g _ _ tag w h.S h.ro (by rw [h.base]; omega) (by omega) (by rw [h.base, h.cm]; omega) (by rw [h.cm]; omega) (by
    rw [h.cm, h.tm]
    have := g.at_base
    rw [h.base, h.gtm] at this
    rw [this]
    omega)

theorem lda_wait {w : World} {b pb lg : Nat} (cl sq : Int) (sql : ByteArray) (h : LdAE w b pb lg 63) :
    Calls Tryd.prog 12 #[.pointer (some ⟨b, 0, none⟩), .int .u64 cl, .int .u64 sq, .string sql] w fun e w' => ∃ gg p, e = .returned (.tuple #[.int .u64 0, .agg #[.slice none 0 0, .int .u64 0, .int .i64 0, .int .u64 0, .slice none 0 0, .slice none 0 0], .iface 86 (.pointer (some ⟨gg, 0, none⟩))]) ∧ Blk w' gg 88 #[.string p, .iface 41 (.int .i64 52)] ∧ Keeps [] w w' := by
  obtain ⟨r, g, p0, p1, p2, h⟩ := h
  have hl := h.last
  exact rpropose_wait b pb r g _ _ cl sq sql w h.S h.ro (by rw [h.base]; omega) (by omega) (by rw [h.cm]; omega) (by rw [h.cm]; omega) (by rw [h.cm]; omega)

theorem lda_propose {w : World} {b pb lg j : Nat} (cl sq : Int) (sql : ByteArray) (h : LdAE w b pb lg j) (hj : j < 63) :
    Calls Tryd.prog 12 #[.pointer (some ⟨b, 0, none⟩), .int .u64 cl, .int .u64 sq, .string sql] w fun e w' => (∃ rr : Rf, e = .returned (.tuple #[.int .u64 ((j : Int) + 2), .agg rr.out, .nilIface])) ∧ LdAE w' b pb lg (j + 1) ∧ Keeps [b, pb, lg] w w' := by
  obtain ⟨r, g, p0, p1, p2, h⟩ := h
  have hl := h.last
  have hlg := h.lg
  refine (rpropose b pb 0 r g [p0, p1, p2] p0 cl sq sql w h.S h.id h.n (by simp) rfl h.ro (by rw [h.base]; omega) (by omega) (by rw [h.base, h.cm]; omega) (by rw [h.cm]; omega) (by rw [h.cm]; omega) ?_).mono ?_
  · intro k q hq hk
    rw [h.base, hl]
    have h1 := h.n1
    have h2 := h.n2
    match k, hk, hq with
    | 1, _, hq => simp at hq; subst hq; omega
    | 2, _, hq => simp at hq; subst hq; omega
    | k + 3, _, hq => simp at hq
  · rintro e w' ⟨v, s, rfl, hT, hk⟩
    rw [hlg] at hk
    refine ⟨⟨_, by rw [hl, show (j : Int) + 1 + 1 = (j : Int) + 2 by omega]⟩, ?_, hk⟩
    have hgl : (g.snoc ⟨r.tm, 1, cl, sq, sql⟩).last = ((j + 1 : Nat) : Int) + 1 := by rw [Lg.snoc_last, hl]; omega
    have hcu : counted r (g.snoc ⟨r.tm, 1, cl, sq, sql⟩) [{ p0 with mt := g.last + 1 }, p1, p2] = 0 := by
      refine counted_char 0 (by rw [h.cm]; omega) (by rw [hgl]; omega) (.inl h.cm.symm) (fun i h1 h2 => ?_)
      have hh : have_ [{ p0 with mt := g.last + 1 }, p1, p2] i ≤ 1 := by
        unfold have_
        simp only [List.filter_cons, List.filter_nil, h.e1, h.e2, decide_eq_true_eq]
        simp only [if_neg (show ¬ i ≤ (0 : Int) by omega)]
        split
        · exact Nat.le_refl _
        · exact Nat.zero_le _
      simp only [okc, h.n, Bool.and_eq_false_imp]
      intro _
      simp only [decide_eq_false_iff_not]
      omega
    have hT' : RT w' b pb ({ r with cm := 0, rs := s } : Rf).bare (g.snoc ⟨r.tm, 1, cl, sq, sql⟩) [{ p0 with mt := g.last + 1 }, p1, p2] [] := by rw [← hcu]; exact hT
    have h1 := h.n1
    have h2 := h.n2
    exact ⟨_, _, _, _, _, { S := hT', lg := hlg, id := h.id, n := h.n, tm := h.tm, ro := h.ro, cm := rfl, base := h.base, gtm := h.gtm, last := hgl, e1 := h.e1, e2 := h.e2, n1 := by omega, n2 := by omega }⟩
end Go.Proofs.YtdeaelbelcjhcaaDoor
