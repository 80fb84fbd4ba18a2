/- A node of a group: its ticks up to its standing; what is committed, as plain data. -/
import Derived.Test.YtdeaelbelcjhcaaDoorRaft34


namespace Go.Proofs.YtdeaelbelcjhcaaDoor
open Go.RowKit

theorem cntUp_char (ok : Int → Bool) (cm T : Int) (k : Nat) (h0 : cm ≤ T) (h1 : T ≤ cm + (k : Int)) (hT : T = cm ∨ ok T = true) (hno : ∀ i, T < i → i ≤ cm + (k : Int) → ok i = false) : cntUp ok cm k = T := by
  induction k with
  | zero => simp only [cntUp]; omega
  | succ k ih =>
    simp only [cntUp]
    by_cases he : T = cm + ((k + 1 : Nat) : Int)
    · rcases hT with h | h
      · omega
      · rw [← he, h]; rfl
    · rw [hno _ (by omega) (by omega)]
      simp only [Bool.false_eq_true, if_false]
      exact ih (by omega) (fun i hi hi2 => hno i hi (by omega))

theorem counted_char {r : Rf} {g : Lg} {ps : List Pe} (T : Int) (h0 : r.cm ≤ T) (h1 : T ≤ g.last) (hT : T = r.cm ∨ okc g r.tm r.n ps T = true) (hno : ∀ i, T < i → i ≤ g.last → okc g r.tm r.n ps i = false) : counted r g ps = T := by
  unfold counted
  exact cntUp_char _ _ _ _ h0 (by omega) hT (fun i hi hi2 => hno i hi (by omega))

theorem have_led {id n : Nat} {l i : Int} (hin : id < n) (hi : 0 < i) : have_ (ledPs id n l) i ≤ 1 := by
  have h0 : ∀ m, have_ (List.replicate m (⟨l + 1, 0, 0, 0⟩ : Pe)) i = 0 := by
    intro m
    unfold have_
    rw [List.filter_eq_nil_iff.2]
    · rfl
    · intro p hp
      obtain ⟨_, rfl⟩ := List.mem_replicate.1 hp
      simp; omega
  unfold ledPs
  rw [List.set_eq_take_append_cons_drop, if_pos (by simpa using hin)]
  have e1 : have_ (List.take id (List.replicate n (⟨l + 1, 0, 0, 0⟩ : Pe))) i = 0 := by rw [List.take_replicate]; exact h0 _
  have e2 : have_ (List.drop (id + 1) (List.replicate n (⟨l + 1, 0, 0, 0⟩ : Pe))) i = 0 := by rw [List.drop_replicate]; exact h0 _
  unfold have_ at *
  rw [List.filter_append, List.length_append, e1, List.filter_cons]
  split
  · rw [List.length_cons, e2]; omega
  · rw [e2]; omega

/-- a group's leader has committed nothing more when it begins -/
theorem ledN_cm {r : Rf} {pb id n : Nat} {g : Lg} (hn : r.n = (n : Int)) (h2 : 2 ≤ n) (hin : id < n) (h0 : 0 ≤ r.cm) (h1 : r.cm ≤ g.last) : (r.ledN pb id n g).cm = r.cm := by
  show counted _ _ _ = _
  refine counted_char _ (by exact Int.le_refl _) (by rw [Lg.snoc_last]; omega) (.inl rfl) ?_
  intro i hi _
  have : have_ (ledPs id n g.last) i ≤ 1 := have_led hin (by omega)
  have hn' : (r.led0 pb n (g.last + 1)).n = (n : Int) := hn
  simp only [okc, hn', Bool.and_eq_false_imp]
  intro _
  simp only [decide_eq_false_iff_not]
  omega

/-- a node that waits, or stands at last -/
def TickSt (w : World) (N b lg n : Nat) (tm : Int) (g : Lg) (k : Nat) : Prop :=
  (k < 10 ∧ Blk w b 63 (fol n tm lg 0 k 10).cells ∧ LogAt w lg g) ∨ (k = 10 ∧ ∃ vb, N ≤ vb ∧ CT w b vb ((fol n tm lg 0 9 10).cand vb n 0).bare g (own1 0 n))

theorem tickN_any (N b lg n : Nat) (tm : Int) (g : Lg) (k : Nat) (w : World) (h : TickSt w N b lg n tm g k) (hN : N ≤ w.heap.size) (hk : k < 10) (h2 : 2 ≤ n) (h7 : n ≤ 7) (hg0 : 0 ≤ g.base) (hg1 : g.last < 900000) (ht0 : 0 ≤ tm) (ht1 : tm < 1000000) :
    Calls Tryd.prog 7 #[.pointer (some ⟨b, 0, none⟩), .int .i64 0] w fun e w' => (∃ v, e = .returned v) ∧ TickSt w' N b lg n tm g (k + 1) ∧ Keeps [b] w w' := by
  rcases h with ⟨_, hB, hL⟩ | ⟨h, _⟩
  rotate_left
  · omega
  have hbl : b ≠ lg := by rintro rfl; obtain ⟨_, _, hL0, _, _⟩ := hL; exact absurd rfl (hB.ne hL0 (by decide))
  by_cases hc : k + 1 < 10
  · refine (rtick_wait b (fol n tm lg 0 k 10) 0 w hB rfl (by simp only [fol]; omega) (by simp only [fol]; omega) (by simp only [fol]; omega)).mono ?_
    rintro e w' ⟨he, hB', hk'⟩
    exact ⟨he, .inl ⟨hc, by simpa [Rf.bare, fol] using hB', hL.keepB hk' hB (Rf.nostr _) (fun e => hbl e.symm)⟩, hk'⟩
  · obtain rfl : k = 9 := by omega
    refine (rtick_standN b 0 n (fol n tm lg 0 9 10) g 0 w hB hL rfl (by simp [fol]) (by simp [fol]) (by simp [fol]) rfl rfl (by omega) h2 h7 rfl hg0 hg1 ht0 ht1).mono ?_
    rintro e w' ⟨vb, he, hv, hB', hV', hL', hk'⟩
    exact ⟨he, .inr ⟨rfl, vb, by omega, ⟨hB', hV', hL', by show _ = _; rw [own1_len]; rfl, rfl, rfl, rfl, rfl, rfl⟩⟩, hk'⟩

/-! RaftCommits -/
def want (a m1 m2 : Int) : Int := if max m1 m2 ≤ a then 0 else max m1 m2

/-- the leader of the law: a entries of term 1, then j of its own term -/
structure LdC (w : World) (b pb lg a j : Nat) (m1 m2 : Int) (r : Rf) (g : Lg) (p0 p1 p2 : Pe) : Prop where
  T : RT w b pb r g [p0, p1, p2] []
  lg : r.lg = lg
  id : r.id = 0
  n : r.n = 3
  tm : r.tm = 2
  ro : r.ro = 2
  rd : r.rd = 1
  cm : r.cm = want a m1 m2
  base : g.base = 0
  last : g.last = (a : Int) + j
  old : ∀ i, 1 ≤ i → i ≤ (a : Int) → g.at i = 1
  new : ∀ i, (a : Int) < i → i ≤ (a : Int) + j → g.at i = 2
  e0 : p0.mt = (a : Int) + j
  e1 : p1.mt = m1
  e2 : p2.mt = m2
  n1 : 0 < p1.nx ∧ p1.nx ≤ (a : Int) + j + 1
  n2 : 0 < p2.nx ∧ p2.nx ≤ (a : Int) + j + 1
  b1 : 0 ≤ m1 ∧ m1 ≤ (a : Int) + j
  b2 : 0 ≤ m2 ∧ m2 ≤ (a : Int) + j

theorem want_le {a j : Nat} {m1 m2 : Int} (h1 : m1 ≤ (a : Int) + j) (h2 : m2 ≤ (a : Int) + j) : want a m1 m2 ≤ (a : Int) + j := by unfold want; split <;> omega
theorem want_pos {a : Nat} {m1 m2 : Int} (_ : 0 ≤ m1) : 0 ≤ want a m1 m2 := by unfold want; split <;> omega

theorem counted_want {r : Rf} {g : Lg} {p0 p1 p2 : Pe} {a j : Nat} {o1 o2 m1 m2 : Int} (hn : r.n = 3) (htm : r.tm = 2) (hcm : r.cm = want a o1 o2) (hl : g.last = (a : Int) + j) (hold : ∀ i, 1 ≤ i → i ≤ (a : Int) → g.at i = 1) (hnew : ∀ i, (a : Int) < i → i ≤ (a : Int) + j → g.at i = 2)
    (h0 : p0.mt = (a : Int) + j) (h1 : p1.mt = m1) (h2 : p2.mt = m2) (ho1 : 0 ≤ o1 ∧ o1 ≤ m1) (ho2 : 0 ≤ o2 ∧ o2 ≤ m2) (b1 : m1 ≤ (a : Int) + j) (b2 : m2 ≤ (a : Int) + j) : counted r g [p0, p1, p2] = want a m1 m2 := by
  have hok : ∀ i, 0 < i → i ≤ (a : Int) + j → okc g r.tm r.n [p0, p1, p2] i = (decide ((a : Int) < i) && decide (i ≤ max m1 m2)) := by
    intro i hi hij
    have hh : have_ [p0, p1, p2] i = 1 + (if i ≤ m1 then 1 else 0) + (if i ≤ m2 then 1 else 0) := by
      unfold have_
      simp only [List.filter_cons, List.filter_nil, h0, h1, h2, decide_eq_true_eq]
      rw [if_pos hij]
      split <;> split <;> simp
    unfold okc
    rw [hn, htm, hh]
    rcases Int.lt_or_le (a : Int) i with h | h
    · rw [hnew i h hij]
      by_cases c1 : i ≤ m1 <;> by_cases c2 : i ≤ m2
      · have : i ≤ max m1 m2 := by omega
        simp [c1, c2, h, this]
      · have : i ≤ max m1 m2 := by omega
        simp [c1, c2, h, this]
      · have : i ≤ max m1 m2 := by omega
        simp [c1, c2, h, this]
      · have : ¬ i ≤ max m1 m2 := by omega
        simp [c1, c2, h, this]
    · rw [hold i (by omega) h]
      have : ¬ (a : Int) < i := by omega
      simp [this]
  have hw0 : 0 ≤ want a o1 o2 := want_pos ho1.1
  refine counted_char _ ?_ ?_ ?_ ?_
  · rw [hcm]; unfold want; split <;> split <;> omega
  · rw [hl]; exact want_le b1 b2
  · by_cases hm : max m1 m2 ≤ (a : Int)
    · left
      rw [hcm]; unfold want; rw [if_pos hm, if_pos (by omega)]
    · right
      have e : want a m1 m2 = max m1 m2 := by unfold want; rw [if_neg hm]
      rw [e, hok _ (by omega) (by omega)]
      have : (a : Int) < max m1 m2 := by omega
      simp [this]
  · intro i hi hil
    rw [hl] at hil
    have : 0 ≤ want a m1 m2 := want_pos (by omega)
    rw [hok i (by omega) hil]
    by_cases hm : max m1 m2 ≤ (a : Int)
    · by_cases c : (a : Int) < i
      · have : ¬ i ≤ max m1 m2 := by omega
        simp [this]
      · simp [c]
    · have e : want a m1 m2 = max m1 m2 := by unfold want; rw [if_neg hm]
      rw [e] at hi
      have : ¬ i ≤ max m1 m2 := by omega
      simp [this]

theorem LdC.keep0 {w w' : World} {b pb lg a j : Nat} {m1 m2 : Int} {r : Rf} {g : Lg} {p0 p1 p2 : Pe} (h : LdC w b pb lg a j m1 m2 r g p0 p1 p2) (hk : Keeps [] w w') : LdC w' b pb lg a j m1 m2 r g p0 p1 p2 :=
  { h with T := h.T.keep0 hk }

/-- there is such a leader -/
def LdE (w : World) (b pb lg a j : Nat) (m1 m2 : Int) : Prop := ∃ r g p0 p1 p2, LdC w b pb lg a j m1 m2 r g p0 p1 p2
theorem LdE.keep {w w' : World} {b pb lg a j : Nat} {m1 m2 : Int} {L : List Nat} (h : LdE w b pb lg a j m1 m2) (hk : Keeps L w w') (hL : ∀ x ∈ L, w.heap.size ≤ x) : LdE w' b pb lg a j m1 m2 := by
  obtain ⟨r, g, p0, p1, p2, h⟩ := h
  exact ⟨r, g, p0, p1, p2, { h with T := h.T.keep hk hL }⟩
theorem LdE.lt {w : World} {b pb lg a j : Nat} {m1 m2 : Int} (h : LdE w b pb lg a j m1 m2) : b < w.heap.size ∧ pb < w.heap.size ∧ lg < w.heap.size := by
  obtain ⟨r, g, p0, p1, p2, h⟩ := h
  refine ⟨h.T.R.bN, h.T.R.pN, ?_⟩
  rw [← h.lg]; exact h.T.R.L.ltN

theorem ldc_commit {w : World} {b pb lg a j : Nat} {m1 m2 : Int} (h : LdE w b pb lg a j m1 m2) :
    Calls Tryd.prog 13 #[.pointer (some ⟨b, 0, none⟩)] w fun e w' => e = .returned (.int .u64 (want a m1 m2)) ∧ w' = w := by
  obtain ⟨r, g, p0, p1, p2, h⟩ := h
  have := rcommit b r w h.T.R.B
  rwa [h.cm] at this

theorem ldc_propose {w : World} {b pb lg a j : Nat} (cl sq : Int) (sql : ByteArray) (h : LdE w b pb lg a j 0 0) (ha : a ≤ 5) (hj : j ≤ 10) :
    Calls Tryd.prog 12 #[.pointer (some ⟨b, 0, none⟩), .int .u64 cl, .int .u64 sq, .string sql] w fun e w' => (∃ i v, e = .returned (.tuple #[.int .u64 i, .agg v, .nilIface])) ∧ LdE w' b pb lg a (j + 1) 0 0 ∧ Keeps [b, pb, lg] w w' := by
  obtain ⟨r, g, p0, p1, p2, h⟩ := h
  have hw : want (a : Int) 0 0 = 0 := by unfold want; rw [if_pos (by omega)]
  have hl := h.lg
  refine (rpropose b pb 0 r g [p0, p1, p2] p0 cl sq sql w h.T h.id h.n (by simp) rfl h.ro (by rw [h.base]; omega) (by rw [h.last]; omega) (by rw [h.base, h.cm, hw]; omega) (by rw [h.cm, h.last, hw]; omega) (by rw [h.cm, h.last, hw]; omega) ?_).mono ?_
  · intro k q hq hk
    rw [h.base, h.last]
    match k, hk, hq with
    | 1, _, hq => simp at hq; subst hq; exact h.n1
    | 2, _, hq => simp at hq; subst hq; exact h.n2
    | k + 3, _, hq => simp at hq
  · rintro e w' ⟨v, s, rfl, hT, hk⟩
    rw [hl] at hk
    refine ⟨⟨_, _, rfl⟩, ?_, hk⟩
    have hgl : (g.snoc ⟨r.tm, 1, cl, sq, sql⟩).last = (a : Int) + ((j + 1 : Nat) : Int) := by rw [Lg.snoc_last, h.last]; omega
    have hat : ∀ i, 0 < i → i ≤ (a : Int) + j → (g.snoc ⟨r.tm, 1, cl, sq, sql⟩).at i = g.at i := by
      intro i h0 h1
      have hb := h.base
      have hll := h.last
      unfold Lg.last at hll
      simp only [Lg.snoc, Lg.at, hb]
      rw [if_neg (by omega), if_neg (by omega)]
      rw [List.getElem?_append_left (by omega)]
    have htop : (g.snoc ⟨r.tm, 1, cl, sq, sql⟩).at ((a : Int) + ((j + 1 : Nat) : Int)) = 2 := by
      have := Lg.at_snoc g ⟨r.tm, 1, cl, sq, sql⟩
      rw [h.last] at this
      rw [show (a : Int) + ((j + 1 : Nat) : Int) = (a : Int) + j + 1 by omega]
      exact this.trans h.tm
    have hold : ∀ i, 1 ≤ i → i ≤ (a : Int) → (g.snoc ⟨r.tm, 1, cl, sq, sql⟩).at i = 1 := fun i h0 h1 => by rw [hat i (by omega) (by omega)]; exact h.old i h0 h1
    have hnew : ∀ i, (a : Int) < i → i ≤ (a : Int) + ((j + 1 : Nat) : Int) → (g.snoc ⟨r.tm, 1, cl, sq, sql⟩).at i = 2 := by
      intro i h0 h1
      by_cases he : i = (a : Int) + ((j + 1 : Nat) : Int)
      · rw [he]; exact htop
      · rw [hat i (by omega) (by omega)]; exact h.new i h0 (by omega)
    have hcu : counted r (g.snoc ⟨r.tm, 1, cl, sq, sql⟩) [{ p0 with mt := g.last + 1 }, p1, p2] = want a 0 0 :=
      counted_want (o1 := 0) (o2 := 0) h.n h.tm h.cm hgl hold hnew (by show g.last + 1 = _; rw [h.last]; omega) h.e1 h.e2 (by omega) (by omega) (by omega) (by omega)
    have hT' : RT w' b pb ({ r with cm := want a 0 0, rs := s } : Rf).bare (g.snoc ⟨r.tm, 1, cl, sq, sql⟩) [{ p0 with mt := g.last + 1 }, p1, p2] [] := by rw [← hcu]; exact hT
    have h1 := h.n1
    have h2 := h.n2
    exact ⟨_, _, _, _, _, { T := hT', lg := hl, id := h.id, n := h.n, tm := h.tm, ro := h.ro, rd := h.rd, cm := rfl, base := h.base, last := hgl, old := hold, new := hnew, e0 := by show g.last + 1 = _; rw [h.last]; omega, e1 := h.e1, e2 := h.e2, n1 := by omega, n2 := by omega, b1 := by omega, b2 := by omega }⟩
end Go.Proofs.YtdeaelbelcjhcaaDoor
