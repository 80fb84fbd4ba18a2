/- RaftCommits: the leader's beginning; an answer that comes to it. -/
import Derived.Test.YtbegjhfkfmhidaaRaft35


namespace Go.Proofs.Ytbegjhfkfmhidaa
open Go.RowKit

theorem forth_mt (p : Pe) (ix : Int) : (p.forth ix).mt = max p.mt ix := by unfold Pe.forth Pe.more; split <;> rfl
theorem forth_nx (p : Pe) (ix L : Int) (h : 0 < p.nx ∧ p.nx ≤ L + 1) (_ : 0 ≤ p.mt) (h1 : max p.mt ix ≤ L) : 0 < (p.forth ix).nx ∧ (p.forth ix).nx ≤ L + 1 := by
  unfold Pe.forth Pe.more
  split
  · simp only []; omega
  · exact h

/-- the entries that the law begins with -/
def olds (a : Nat) : List En := List.replicate a ⟨1, 0, 0, 0, ⟨#[]⟩⟩
theorem olds_len (a : Nat) : (olds a).length = a := by simp [olds]

theorem ldc_begin {w : World} {b vb lg a : Nat} (h : CT w b vb ((fol (3 : Nat) 1 lg 0 9 10).cand vb 3 0).bare ⟨0, 0, olds a⟩ (own1 0 3)) (ha : a ≤ 5) :
    Calls Try.prog 17 #[.pointer (some ⟨b, 0, none⟩), .agg (wmsg 1 2).toArray, .int .i64 0] w fun e w' => ∃ v pb, e = .returned v ∧ w.heap.size ≤ pb ∧ LdE w' b pb lg a 1 0 0 ∧ Keeps [b, vb, lg] w w' := by
  have hl : (⟨0, 0, olds a⟩ : Lg).last = (a : Int) := by unfold Lg.last; simp [olds_len]
  have S := rstep_voted_yes b vb 1 _ ⟨0, 0, olds a⟩ (own1 0 3) 0 w h rfl rfl (by omega) (by rw [own1_len]; omega) (by rw [own1_len]; omega) (by show (3 : Int) < _; decide) (Int.le_refl _) (by rw [hl]; omega) (Int.le_refl _) (by rw [hl]; show (0 : Int) ≤ _; omega)
  refine S.mono ?_
  rintro e w' ⟨v, pb, rfl, hp, hT, hk⟩
  rw [hl] at hT
  have hps : ledPs 0 (own1 0 3).length (a : Int) = [⟨a + 1, a + 1, 1, 0⟩, ⟨a + 1, 0, 0, 0⟩, ⟨a + 1, 0, 0, 0⟩] := rfl
  rw [hps] at hT
  have hcm : (((((fol (3 : Nat) 1 lg 0 9 10).cand vb 3 0).bare).ledN pb 0 (own1 0 3).length ⟨0, 0, olds a⟩).bare).cm = 0 :=
    ledN_cm (r := ((fol (3 : Nat) 1 lg 0 9 10).cand vb 3 0).bare) (n := (own1 0 3).length) rfl (by rw [own1_len]; omega) (by rw [own1_len]; omega) (Int.le_refl _) (by rw [hl]; show (0 : Int) ≤ _; omega)
  have hold : ∀ i, 1 ≤ i → i ≤ (a : Int) → ((⟨0, 0, olds a⟩ : Lg).snoc ⟨2, 0, 0, 0, ⟨#[]⟩⟩).at i = 1 := by
    intro i h0 h1
    have h2 := at_es (olds a ++ [⟨2, 0, 0, 0, ⟨#[]⟩⟩]) 0 0 (i - 1).toNat ⟨1, 0, 0, 0, ⟨#[]⟩⟩ (by
      rw [List.getElem?_append_left (by rw [olds_len]; omega)]
      unfold olds
      rw [List.getElem?_replicate, if_pos (by omega)])
    rw [show (0 : Int) + 1 + ((i - 1).toNat : Int) = i by omega] at h2
    exact h2
  have hnew : ((⟨0, 0, olds a⟩ : Lg).snoc ⟨2, 0, 0, 0, ⟨#[]⟩⟩).at ((a : Int) + 1) = 2 := by
    have := Lg.at_snoc ⟨0, 0, olds a⟩ ⟨2, 0, 0, 0, ⟨#[]⟩⟩
    rw [hl] at this
    exact this
  have hnew2 : ∀ i, (a : Int) < i → i ≤ (a : Int) + ((1 : Nat) : Int) → ((⟨0, 0, olds a⟩ : Lg).snoc ⟨2, 0, 0, 0, ⟨#[]⟩⟩).at i = 2 := by
    intro i h0 h1
    obtain rfl : i = (a : Int) + 1 := by omega
    exact hnew
  refine ⟨v, pb, rfl, hp, ?_, hk⟩
  exact ⟨_, _, _, _, _, { T := hT, lg := rfl, id := rfl, n := rfl, tm := rfl, ro := rfl, rd := rfl, cm := by rw [hcm]; unfold want; rw [if_pos (by omega)], base := rfl, last := by rw [Lg.snoc_last, hl]; rfl, old := hold, new := hnew2, e0 := rfl, e1 := rfl, e2 := rfl, n1 := by simp only []; omega, n2 := by simp only []; omega, b1 := by omega, b2 := by omega }⟩

def upd (f : Nat) (c : Nat) (L m k : Int) : Int := if f = c ∧ k ≤ L then max m k else m

theorem ldc_step {w : World} {b pb lg a j : Nat} {m1 m2 : Int} (f k : Nat) (h : LdE w b pb lg a j m1 m2) (hf : f = 1 ∨ f = 2) (ha : a ≤ 5) (hj : j ≤ 10) :
    Calls Try.prog 17 #[.pointer (some ⟨b, 0, none⟩), .agg (amsg (f : Int) 2 (k : Int) 1 true).toArray, .int .i64 0] w fun e w' => (∃ v, e = .returned v) ∧ LdE w' b pb lg a j (upd f 1 ((a : Int) + j) m1 k) (upd f 2 ((a : Int) + j) m2 k) ∧ Keeps [b, pb] w w' := by
  obtain ⟨r, g, p0, p1, p2, h⟩ := h
  have hw := want_le h.b1.2 h.b2.2
  have hw0 : 0 ≤ want (a : Int) m1 m2 := want_pos h.b1.1
  have hlast := h.last
  have hn' : r.n = (([p0, p1, p2] : List Pe).length : Int) := h.n
  have fin : ∀ (c2 : Int) (s : Sl3) (q1 q2 : Pe) (o1 o2 : Int) (w' : World), RT w' b pb ({ r with cm := c2, rs := s } : Rf).bare g [p0, q1, q2] [] → c2 = want a o1 o2 → q1.mt = o1 → q2.mt = o2 → (0 < q1.nx ∧ q1.nx ≤ (a : Int) + j + 1) → (0 < q2.nx ∧ q2.nx ≤ (a : Int) + j + 1) → (0 ≤ o1 ∧ o1 ≤ (a : Int) + j) → (0 ≤ o2 ∧ o2 ≤ (a : Int) + j) → LdE w' b pb lg a j o1 o2 :=
    fun c2 s q1 q2 o1 o2 w' hT hc hq1 hq2 hx1 hx2 hb1 hb2 => ⟨_, _, _, _, _, { T := hT, lg := h.lg, id := h.id, n := h.n, tm := h.tm, ro := h.ro, rd := h.rd, cm := hc, base := h.base, last := h.last, old := h.old, new := h.new, e0 := h.e0, e1 := hq1, e2 := hq2, n1 := hx1, n2 := hx2, b1 := hb1, b2 := hb2 }⟩
  have hb1 := h.b1
  have hb2 := h.b2
  have e1 := h.e1
  have e2 := h.e2
  have n1 := h.n1
  have n2 := h.n2
  by_cases hk : (k : Int) ≤ (a : Int) + j
  · rcases hf with rfl | rfl
    · have H := hd_ok b pb 1 r g [p0, p1, p2] p1 [] r.tm k 1 rfl h.T.ms h.T.dn (by rw [h.base]; omega) (by rw [h.last]; omega) hn' (by simp) (by simp) (by omega) (by rw [h.last]; exact hk) (by omega) (by omega) (by rw [h.base]; exact n1.1) (by rw [h.base, h.cm]; exact hw0) (by rw [h.cm, h.last]; exact hw)
      have S := rstep_heard b pb 1 r g [p0, p1, p2] [] k 1 true 0 _ _ _ w h.T h.id hn' (by omega) (by simp) h.ro H
      rw [show ∀ f : Int, amsg f r.tm k 1 true = amsg f 2 k 1 true from fun f => by rw [h.tm]] at S
      refine S.mono ?_
      rintro e w' ⟨m, d, s, ys, rfl, hT, _, _, hk'⟩
      refine ⟨⟨_, rfl⟩, ?_, hk'⟩
      have hmt : ((p1.acks 1 r.rd).forth (k : Int)).mt = max m1 k := by rw [forth_mt]; show max p1.mt _ = _; rw [e1]
      have hnx := forth_nx (p1.acks 1 r.rd) k ((a : Int) + j) n1 (by show 0 ≤ p1.mt; omega) (by show max p1.mt _ ≤ _; omega)
      have u1 : upd 1 1 ((a : Int) + j) m1 k = max m1 k := by unfold upd; rw [if_pos ⟨rfl, hk⟩]
      have u2 : upd 1 2 ((a : Int) + j) m2 k = m2 := by unfold upd; rw [if_neg (by omega)]
      rw [u1, u2]
      exact fin _ s _ p2 _ _ w' hT (counted_want (o1 := m1) (o2 := m2) h.n h.tm h.cm h.last h.old h.new h.e0 hmt e2 (by omega) (by omega) (by omega) (by omega)) hmt e2 hnx n2 (by omega) hb2
    · have H := hd_ok b pb 2 r g [p0, p1, p2] p2 [] r.tm k 1 rfl h.T.ms h.T.dn (by rw [h.base]; omega) (by rw [h.last]; omega) hn' (by simp) (by simp) (by omega) (by rw [h.last]; exact hk) (by omega) (by omega) (by rw [h.base]; exact n2.1) (by rw [h.base, h.cm]; exact hw0) (by rw [h.cm, h.last]; exact hw)
      have S := rstep_heard b pb 2 r g [p0, p1, p2] [] k 1 true 0 _ _ _ w h.T h.id hn' (by omega) (by simp) h.ro H
      rw [show ∀ f : Int, amsg f r.tm k 1 true = amsg f 2 k 1 true from fun f => by rw [h.tm]] at S
      refine S.mono ?_
      rintro e w' ⟨m, d, s, ys, rfl, hT, _, _, hk'⟩
      refine ⟨⟨_, rfl⟩, ?_, hk'⟩
      have hmt : ((p2.acks 1 r.rd).forth (k : Int)).mt = max m2 k := by rw [forth_mt]; show max p2.mt _ = _; rw [e2]
      have hnx := forth_nx (p2.acks 1 r.rd) k ((a : Int) + j) n2 (by show 0 ≤ p2.mt; omega) (by show max p2.mt _ ≤ _; omega)
      have u1 : upd 2 1 ((a : Int) + j) m1 k = m1 := by unfold upd; rw [if_neg (by omega)]
      have u2 : upd 2 2 ((a : Int) + j) m2 k = max m2 k := by unfold upd; rw [if_pos ⟨rfl, hk⟩]
      rw [u1, u2]
      exact fin _ s p1 _ _ _ w' hT (counted_want (o1 := m1) (o2 := m2) h.n h.tm h.cm h.last h.old h.new h.e0 e1 hmt (by omega) (by omega) (by omega) (by omega)) e1 hmt n1 hnx hb1 (by omega)
  · have u1 : upd f 1 ((a : Int) + j) m1 k = m1 := by unfold upd; rw [if_neg (by omega)]
    have u2 : upd f 2 ((a : Int) + j) m2 k = m2 := by unfold upd; rw [if_neg (by omega)]
    rw [u1, u2]
    rcases hf with rfl | rfl
    · have H := hd_far b pb 1 r g [p0, p1, p2] p1 [] r.tm k 1 rfl h.T.ms h.T.dn (by rw [h.base]; omega) (by rw [h.last]; omega) hn' (by simp) (by simp) (by rw [h.last]; omega)
      have S := rstep_heard b pb 1 r g [p0, p1, p2] [] k 1 true 0 _ _ _ w h.T h.id hn' (by omega) (by simp) h.ro H
      rw [show ∀ f : Int, amsg f r.tm k 1 true = amsg f 2 k 1 true from fun f => by rw [h.tm]] at S
      refine S.mono ?_
      rintro e w' ⟨m, d, s, ys, rfl, hT, _, _, hk'⟩
      exact ⟨⟨_, rfl⟩, fin _ s _ p2 _ _ w' hT h.cm e1 e2 n1 n2 hb1 hb2, hk'⟩
    · have H := hd_far b pb 2 r g [p0, p1, p2] p2 [] r.tm k 1 rfl h.T.ms h.T.dn (by rw [h.base]; omega) (by rw [h.last]; omega) hn' (by simp) (by simp) (by rw [h.last]; omega)
      have S := rstep_heard b pb 2 r g [p0, p1, p2] [] k 1 true 0 _ _ _ w h.T h.id hn' (by omega) (by simp) h.ro H
      rw [show ∀ f : Int, amsg f r.tm k 1 true = amsg f 2 k 1 true from fun f => by rw [h.tm]] at S
      refine S.mono ?_
      rintro e w' ⟨m, d, s, ys, rfl, hT, _, _, hk'⟩
      exact ⟨⟨_, rfl⟩, fin _ s p1 _ _ _ w' hT h.cm e1 e2 n1 n2 hb1 hb2, hk'⟩
/-- a block of another type turns -/
theorem RT.keepB {w w' : World} {b pb x : Nat} {r : Rf} {g : Lg} {ps : List Pe} {t : TypeId} {cs : Array Value} (h : RT w b pb r g ps []) (hk : Keeps [x] w w') (hX : Blk w x t cs) (hs : ∀ v ∈ cs.toList, ∀ s, v ≠ Value.string s) (h1 : 71 ≠ t) (h2 : 84 ≠ t) (h3 : 77 ≠ t) : RT w' b pb r g ps [] := by
  have hL := h.R.L.at
  have hlx : r.lg ≠ x := by obtain ⟨_, _, hLb, _, _⟩ := hL; exact hLb.ne hX h3
  exact ⟨RC.of (h.R.B.keep hk (by simpa using h.R.B.ne hX h1)) (h.R.P.keep hk (by simpa using h.R.P.ne hX h2)) (hL.keepB hk hX hs hlx) h.R.hps, (h.Q.keepNil hk).anyNil, h.ms, h.dn, h.fr⟩
theorem LdE.keepB {w w' : World} {b pb lg a j x : Nat} {m1 m2 : Int} {t : TypeId} {cs : Array Value} (h : LdE w b pb lg a j m1 m2) (hk : Keeps [x] w w') (hX : Blk w x t cs) (hs : ∀ v ∈ cs.toList, ∀ s, v ≠ Value.string s) (h1 : 71 ≠ t) (h2 : 84 ≠ t) (h3 : 77 ≠ t) : LdE w' b pb lg a j m1 m2 := by
  obtain ⟨r, g, p0, p1, p2, h⟩ := h
  exact ⟨r, g, p0, p1, p2, { h with T := h.T.keepB hk hX hs h1 h2 h3 }⟩
end Go.Proofs.Ytbegjhfkfmhidaa
