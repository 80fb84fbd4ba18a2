/- A tree's nodes: leaf, size, at, child. -/
import Derived.Test.YtknnhnpcgefchaaDoorTr10

namespace Go.Proofs.YtknnhnpcgefchaaDoor
open Go.RowKit Go.Lib

theorem pos_lo {l : List KV} {k : Bs} {r : Nat} (h1 : ∀ i p, i < r → l[i]? = some p → ltB p.1 k = true) (h2 : ∀ i p, r ≤ i → l[i]? = some p → ltB p.1 k = false) : lo k l = l.take r ∧ frm k l = l.drop r := by
  have a1 : ∀ p ∈ l.take r, ltB p.1 k = true := fun p hp => by
    obtain ⟨i, hi⟩ := List.mem_iff_getElem?.1 hp
    rw [List.getElem?_take] at hi
    split at hi
    · exact h1 i p (by assumption) hi
    · cases hi
  have a2 : ∀ p ∈ l.drop r, ltB p.1 k = false := fun p hp => by
    obtain ⟨i, hi⟩ := List.mem_iff_getElem?.1 hp
    rw [List.getElem?_drop] at hi
    exact h2 (r + i) p (by omega) hi
  have e := (List.take_append_drop r l).symm
  constructor
  · conv => lhs; rw [e, lo_app, lo_all a1, lo_none a2]
    simp
  · conv => lhs; rw [e, frm_app, frm_none a1, frm_all a2]
    simp

section
variable {w : World} {F : Nat → Prop}
theorem nleaf {b : Nat} {v0 v1 : Value} {co : Option Addr} {n cc : Nat} (hB : Blk w b 55 #[v0, v1, .slice co n cc]) :
    Calls Tryd.prog 24 #[.pointer (some ⟨b, 0, none⟩)] w fun e w' => e = .returned (.bool (n == 0)) ∧ w' = w := by
  have hc := hB.cell
  have hl := hB.lt
  go_enter Tryd.func24, Tryd.ntmps24
  go_wp2_with fail
  go_ret
  refine ⟨?_, rfl⟩
  cases n <;> simp <;> omega
theorem nsize {b n m pc cc : Nat} {v0 : Value} {po co : Option Addr} (hB : Blk w b 55 #[v0, .slice po n pc, .slice co m cc]) :
    Calls Tryd.prog 39 #[.pointer (some ⟨b, 0, none⟩)] w fun e w' => e = .returned (.int .i64 (max n m : Nat)) ∧ Keeps [] w w' := by
  have hc := hB.cell
  have hl := hB.lt
  rcases (by omega : n = m ∨ n < m ∨ m < n) with hnm | hnm | hnm
  · subst hnm
    rw [Nat.max_self]
    go_enter Tryd.func39, Tryd.ntmps39
    go_wp2_with fail
    go_quiet (fail)
    go_wp2_with fail
    go_ret
    exact ⟨rfl, (Keeps.refl [] w).drewN _⟩
  · have e1 : max n m = m := by omega
    have n0 : (n : Int) < (m : Int) := by omega
    have n1 : (n : Int) ≤ (m : Int) := by omega
    have n2 : ¬ ((m : Int) < (n : Int)) := by omega
    have n3 : ¬ ((m : Int) ≤ (n : Int)) := by omega
    rw [e1]
    go_enter Tryd.func39, Tryd.ntmps39
    go_wp2_with fail
    go_quiet (fail)
    go_wp2_with fail
    go_ret
    exact ⟨rfl, (Keeps.refl [] w).drewN _⟩
  · have e1 : max n m = n := by omega
    have n1 : ¬ ((n : Int) ≤ (m : Int)) := by omega
    have n2 : (m : Int) < (n : Int) := by omega
    have n4 : ¬ ((n : Int) < (m : Int)) := by omega
    have n3 : (m : Int) ≤ (n : Int) := by omega
    rw [e1]
    go_enter Tryd.func39, Tryd.ntmps39
    go_wp2_with fail
    go_quiet (fail)
    go_wp2_with fail
    go_ret
    exact ⟨rfl, (Keeps.refl [] w).drewN _⟩

/-- where a key stands among pairs, or would -/
theorem nat_at {ps : List Pr} {po ko : Option Addr} {pc kc : Nat} {k : Bs} (hS : Sl w 2 po ps.length pc (prs ps)) (hp : ∀ p ∈ ps, PrOk w F p) (hs : Srt (kvs ps)) (hn : ps.length ≤ 1000) (hk : Rb w ko kc k) :
    Calls Tryd.prog 26 #[.slice po ps.length pc, .slice ko k.length kc] w fun e w' => ∃ r : Nat, e = .returned (.tuple #[.int .i64 (r : Int), .bool (has k (kvs ps))]) ∧ r ≤ ps.length ∧ lo k (kvs ps) = (kvs ps).take r ∧ frm k (kvs ps) = (kvs ps).drop r ∧ Keeps [] w w' := by
  have hget : ∀ i (h : i < ps.length), (kvs ps)[i]? = some ((ps[i]).k, (ps[i]).v) := fun i h => by simp [kvs, h]
  let d : Pr := ⟨none, 0, none, 0, [], []⟩
  have hd : ∀ i (h : i < ps.length), ps.getD i d = ps[i] := fun i h => by simp [List.getD, h]
  have H := bsP po ps.length pc (prs ps) (fun i => ps.getD i d) (fun i => (ps.getD i d).k) ko kc k w hS (by omega)
    (fun i hi => prs_at ps i _ (by rw [hd i hi]; exact List.getElem?_eq_getElem hi))
    (fun i hi w' hw => at_cmp ((hp _ (by rw [hd i hi]; exact List.getElem_mem hi)).at.keep0 hw) (hk.keep0 hw))
    (fun i j hij hj h => by
      have hi : i < ps.length := by omega
      rw [hd i hi]
      rw [hd j hj] at h
      have := List.pairwise_iff_getElem.1 hs i j (by rw [kvs_length]; exact hi) (by rw [kvs_length]; exact hj) hij
      simp only [kvs, List.getElem_map] at this
      exact ltB_iff.1 (ltB_trans this (ltB_iff.2 h)))
  go_enter Tryd.func26, Tryd.ntmps26
  go_wp2_with fail
  refine H.mono ?_
  rintro e w1 ⟨r, hr, h1, h2, rfl, hk1⟩
  obtain ⟨e1, e2⟩ := pos_lo (l := kvs ps) (k := k) (r := r) (fun i p hi hp => by
      have hil : i < ps.length := by omega
      have := h1 i hi
      rw [hd i hil] at this
      rw [hget i hil] at hp
      cases hp
      exact ltB_iff.2 this) (fun i p hi hp => by
      have hil : i < ps.length := by
        have := (List.getElem?_eq_some_iff.1 hp).1
        rwa [kvs_length] at this
      have := h2 i hi hil
      rw [hd i hil] at this
      rw [hget i hil] at hp
      cases hp
      simpa [ltB] using this)
  have e3 : (decide (r < ps.length) && (cmpL (ps.getD r d).k k == 0)) = has k (kvs ps) := by
    rcases Nat.lt_or_ge r ps.length with hlt | hge
    · have hne := h2 r (Nat.le_refl _) hlt
      rw [hd r hlt] at hne ⊢
      have hfr : frm k (kvs ps) = ((ps[r]).k, (ps[r]).v) :: (kvs ps).drop (r + 1) := by
        rw [e2, List.drop_eq_getElem_cons (by rw [kvs_length]; exact hlt)]
        simp [kvs]
      rcases hs.frm_cases (k := k) with ⟨g1, g2⟩ | ⟨v, g1, g2, _⟩
      · have hm : ((ps[r]).k, (ps[r]).v) ∈ hi k (kvs ps) := by rw [← g2, hfr]; exact List.mem_cons_self
        have := (hi_mem hm).2
        rw [g1]
        have hz : ¬ cmpL (ps[r]).k k = 0 := fun hz => by
          rw [(cmpL_eq _ _).1 hz, ltB_irr] at this
          cases this
        simp [hz]
      · rw [hfr] at g2
        simp only [List.cons.injEq, Prod.mk.injEq] at g2
        rw [g1, g2.1.1, cmpL_refl]
        simp [hlt]
    · have : ¬ (r < ps.length) := by omega
      have hfn : frm k (kvs ps) = [] := by rw [e2]; exact List.drop_of_length_le (by rw [kvs_length]; omega)
      rcases hs.frm_cases (k := k) with ⟨g1, _⟩ | ⟨v, _, g2, _⟩
      · rw [g1]; simp [this]
      · rw [hfn] at g2; cases g2
  rw [e3]
  clear H e3 h1 h2
  obtain ⟨fd, hfd⟩ : ∃ fd, fd = has k (kvs ps) := ⟨_, rfl⟩
  rw [← hfd]
  have HF := Lib.hid hfd
  clear hfd
  go_wp2_with fail
  go_ret2
  exact ⟨r, by rw [← HF.out]; rfl, hr, e1, e2, hk1⟩

/-- the child that may have a key -/
theorem nchild {d m M b : Nat} {f : Bs} {fo co ko : Option Addr} {fc pc cc kc : Nat} {po : Option Addr} {k : Bs} {cs : List Nd}
    (hB : Blk w b 55 #[.slice fo f.length fc, .slice po 0 pc, .slice co cs.length cc]) (hS : Sl w 1 co cs.length cc (ptrs cs)) (hc : ∀ c ∈ cs, NdAt w F d m M c.b c.f c.l) (hp : cs.Pairwise Ahd) (hcs : cs ≠ []) (hn : cs.length ≤ 1000) (hk : Rb w ko kc k) :
    Calls Tryd.prog 25 #[.pointer (some ⟨b, 0, none⟩), .slice ko k.length kc] w fun e w' => ∃ (i : Nat) (c : Nd), e = .returned (.int .i64 (i : Int)) ∧ cs[i]? = some c ∧ (ltB k c.f = false ∨ i = 0) ∧ (∀ x ∈ cs.drop (i + 1), ltB k x.f = true) ∧ Keeps [] w w' := by
  have hl0 : 0 < cs.length := List.length_pos_iff.2 hcs
  let d0 : Nd := ⟨0, [], []⟩
  have hd : ∀ i (h : i < cs.length), cs.getD i d0 = cs[i] := fun i h => by simp [List.getD, h]
  have hord : ∀ i j (hij : i < j) (hj : j < cs.length), ltB (cs[i]'(by omega)).f cs[j].f = true := fun i j hij hj => (List.pairwise_iff_getElem.1 hp i j (by omega) hj hij).1
  have H := bsN co cs.length cc (ptrs cs) (fun i => (cs.getD i d0).b) (fun i => (cs.getD i d0).f) ko kc k w hS (by omega)
    (fun i hi => by simp [ptrs, hi])
    (fun i hi w' hw => by
      have hx := (hc _ (List.getElem_mem hi))
      rw [hd i hi]
      obtain ⟨fo', fc', v1, v2, h1, h2, _⟩ := hx.first
      exact (child_cmp (h1.keep hw (by simp)) (h2.keep0 hw) (hk.keep0 hw)).mono fun e w'' h => ⟨h.1, h.2 ▸ Keeps.refl _ _⟩)
    (fun i j hij hj h => by
      rw [hd i (by omega)]
      rw [hd j hj] at h
      exact ltB_iff.1 (ltB_trans (hord i j hij hj) (ltB_iff.2 h)))
  have hcc := hB.cell
  have hlt := hB.lt
  go_enter Tryd.func25, Tryd.ntmps25
  go_wp2_with fail
  refine H.mono ?_
  rintro e w1 ⟨r, hr, h1, h2, rfl, hk1⟩
  clear H
  have HO := Lib.hid hord
  have H2 := Lib.hid h2
  have H1 := Lib.hid h1
  have HD := Lib.hid hd
  clear hord h1 h2 hd
  by_cases hf : r < cs.length ∧ cmpL (cs.getD r d0).f k = 0
  · have e3 : (decide (r < cs.length) && (cmpL (cs.getD r d0).f k == 0)) = true := by rw [hf.2]; simp [hf.1]
    rw [e3]
    have n1 : (0 : Int) ≤ (r : Int) := by omega
    obtain ⟨hrl, hrk⟩ := hf
    rw [HD.out r hrl] at hrk
    have hek := (cmpL_eq _ _).1 hrk
    clear hrk e3
    go_wp2_with fail
    go_ret
    refine ⟨r, cs[r], by simp; try omega, List.getElem?_eq_getElem hrl, .inl (by rw [hek]; exact ltB_irr _), fun x hx => ?_, hk1⟩
    obtain ⟨j, hj⟩ := List.mem_iff_getElem?.1 hx
    rw [List.getElem?_drop] at hj
    obtain ⟨hjl, rfl⟩ := List.getElem?_eq_some_iff.1 hj
    have := HO.out r (r + 1 + j) (by omega) hjl
    rwa [hek] at this
  · have e3 : (decide (r < cs.length) && (cmpL (cs.getD r d0).f k == 0)) = false := by
      rw [Bool.and_eq_false_iff]
      by_cases hrl : r < cs.length
      · exact .inr (by simpa using fun hz => hf ⟨hrl, hz⟩)
      · exact .inl (by simpa using hrl)
    rw [e3]
    have HF := Lib.hid hf
    clear hf e3
    have up : ∀ x ∈ cs.drop r, ltB k x.f = true := fun x hx => by
      obtain ⟨j, hj⟩ := List.mem_iff_getElem?.1 hx
      rw [List.getElem?_drop] at hj
      obtain ⟨hjl, rfl⟩ := List.getElem?_eq_some_iff.1 hj
      have g1 := H2.out (r + j) (by omega) hjl
      rw [HD.out _ hjl] at g1
      rcases ltB_tri k (cs[r + j]).f with h | h | h
      · exact h
      · rcases Nat.eq_zero_or_pos j with rfl | hj0
        · exact absurd ⟨by omega, by rw [HD.out _ (by omega)]; exact (cmpL_eq _ _).2 h.symm⟩ HF.out
        · have g2 := HO.out r (r + j) (by omega) hjl
          rw [← h] at g2
          have g3 := H2.out r (Nat.le_refl _) (by omega)
          rw [HD.out _ (by omega)] at g3
          exact absurd (ltB_iff.1 g2) g3
      · exact absurd (ltB_iff.1 h) g1
    rcases Nat.eq_zero_or_pos r with rfl | hr0
    · have n1 : ¬ ((0 : Int) ≤ -1) := by omega
      go_wp2_with fail
      go_ret
      exact ⟨0, cs[0], by simp, List.getElem?_eq_getElem hl0, .inr rfl, fun x hx => up x (List.mem_of_mem_drop hx), hk1⟩
    · have q1 : IntKind.i64.wrap ((r : Int) - 1) = ((r - 1 : Nat) : Int) := by rw [IntWalk.i64_in _ (by omega)]; omega
      have q2 : (r : Int) - 1 = ((r - 1 : Nat) : Int) := by omega
      have hr1 : r - 1 < cs.length := by omega
      have hlo := H1.out (r - 1) (by omega)
      rw [HD.out _ hr1] at hlo
      have e4 : r - 1 + 1 = r := by omega
      obtain ⟨i, hi⟩ : ∃ i, i = r - 1 := ⟨_, rfl⟩
      rw [← hi] at q1 q2 hr1 e4
      have n1 : (0 : Int) ≤ (i : Int) := by omega
      have HI := Lib.hid hi
      have HL := Lib.hid hlo
      have E4 := Lib.hid e4
      clear hi hlo e4
      go_wp2_with fail
      go_ret
      refine ⟨i, cs[i], by simp; try omega, List.getElem?_eq_getElem hr1, .inl ?_, fun x hx => up x (by rw [← E4.out]; exact hx), hk1⟩
      have h0 := HL.out
      simp only [← HI.out] at h0
      exact ltB_asymm (ltB_iff.2 h0)
end
end Go.Proofs.YtknnhnpcgefchaaDoor
