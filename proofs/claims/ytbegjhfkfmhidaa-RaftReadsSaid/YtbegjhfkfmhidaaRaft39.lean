/- RaftReads: the leader's beginning, a question that waits, answers, as plain data. -/
import Derived.Test.YtbegjhfkfmhidaaRaft35
import Derived.Test.YtbegjhfkfmhidaaRaft38


namespace Go.Proofs.Ytbegjhfkfmhidaa
open Go.RowKit

theorem forth_mt' (p : Pe) (ix : Int) : (p.forth ix).mt = max p.mt ix := by unfold Pe.forth Pe.more; split <;> rfl
theorem forth_ak (p : Pe) (ix : Int) : (p.forth ix).ak = p.ak := by unfold Pe.forth Pe.more; split <;> rfl
theorem forth_nx' (p : Pe) (ix L : Int) (h : 0 < p.nx ∧ p.nx ≤ L + 1) (_ : 0 ≤ p.mt) (h1 : max p.mt ix ≤ L) : 0 < (p.forth ix).nx ∧ (p.forth ix).nx ≤ L + 1 := by
  unfold Pe.forth Pe.more
  split
  · simp only []; omega
  · exact h

/-- the first message's round -/
theorem Fed.round {r : Rf} {g : Lg} {ps : List Pe} {i : Nat} {l : List Nat} {ys : List Value} (h : Fed r g ps (i :: l) ys) : ys[8]? = some (.int .u64 r.rd) := by
  obtain ⟨ms, rfl, hl, hh⟩ := h
  obtain ⟨p, ea, el, ec, _, h0⟩ := hh 0 i rfl
  cases ms with
  | nil => simp at hl
  | cons m ms =>
    simp only [List.getElem?_cons_zero, Option.some.injEq] at h0
    subst h0
    simp [stamp, fmsg0]

/-- how many of the first k nodes are known to have answered round 2 -/
def cn (T : Nat → Nat) : Nat → Nat
  | 0 => 1
  | k + 1 => cn T k + if 1 ≤ k ∧ 2 ≤ T k then 1 else 0

theorem acks_cn {ps : List Pe} {p0 : Pe} {T : Nat → Nat} (h5 : ps.length = 5) (h0 : ps[0]? = some p0) (ho : p0.ak = 2) (hT : ∀ j p, ps[j]? = some p → j ≠ 0 → (2 ≤ p.ak ↔ 2 ≤ T j)) : acks ps 2 = cn T 5 := by
  match ps, h5 with
  | [a, b, c, d, e], _ =>
    have h1 := hT 1 b rfl (by omega)
    have h2 := hT 2 c rfl (by omega)
    have h3 := hT 3 d rfl (by omega)
    have h4 := hT 4 e rfl (by omega)
    simp only [List.getElem?_cons_zero, Option.some.injEq] at h0
    subst h0
    have ha : (2 : Int) ≤ a.ak := by omega
    simp only [acks, List.filter_cons, List.filter_nil, decide_eq_true_eq, h1, h2, h3, h4, if_pos ha, cn]
    by_cases c1 : 2 ≤ T 1 <;> by_cases c2 : 2 ≤ T 2 <;> by_cases c3 : 2 ≤ T 3 <;> by_cases c4 : 2 ≤ T 4 <;> simp [c1, c2, c3, c4]

/-- the questions that wait, in the law -/
def rlR (done : Bool) : List Rq := if done then [] else [⟨7, 1, 2⟩]

/-- the leader of the law -/
structure LdR (w : World) (b pb x : Nat) (T : Nat → Nat) (done : Bool) (r : Rf) (g : Lg) (ps : List Pe) (p0 : Pe) : Prop where
  S : RT w b pb r g ps (rlR done)
  Q : QsAt w w.heap.size [b, pb, x] r.rs (rlR done)
  id : r.id = 0
  n : r.n = 5
  tm : r.tm = 1
  ro : r.ro = 2
  rd : r.rd = 2
  cm : r.cm = 1
  base : g.base = 0
  last : g.last = 1
  len : ps.length = 5
  own : ps[0]? = some p0
  ak : p0.ak = 2
  oth : ∀ j p, ps[j]? = some p → j ≠ 0 → (0 < p.nx ∧ p.nx ≤ 2) ∧ (0 ≤ p.mt ∧ p.mt ≤ 1) ∧ (2 ≤ p.ak ↔ 2 ≤ T j)
def LdRE (w : World) (b pb x : Nat) (T : Nat → Nat) (done : Bool) : Prop := ∃ r g ps p0, LdR w b pb x T done r g ps p0

theorem LdRE.keep {w w' : World} {b pb x : Nat} {T : Nat → Nat} {done : Bool} {L : List Nat} (h : LdRE w b pb x T done) (hk : Keeps L w w') (hL : ∀ y ∈ L, w.heap.size ≤ y) : LdRE w' b pb x T done := by
  obtain ⟨r, g, ps, p0, h⟩ := h
  exact ⟨r, g, ps, p0, { h with S := h.S.keep hk hL, Q := (h.Q.keep hk (fun y hy => .inr (hL y hy))).grow hk.size }⟩
theorem LdRE.lt {w : World} {b pb x : Nat} {T : Nat → Nat} {done : Bool} (h : LdRE w b pb x T done) : b < w.heap.size ∧ pb < w.heap.size := by
  obtain ⟨r, g, ps, p0, h⟩ := h
  exact ⟨h.S.R.bN, h.S.R.pN⟩

def tell (T : Nat → Nat) (f rd : Nat) : Nat → Nat := fun j => if j = f then max (T f) rd else T j

theorem ldr_step {w : World} {b pb x : Nat} {T : Nat → Nat} {done : Bool} (f rd : Nat) (ok : Bool) (h : LdRE w b pb x T done) (hf0 : 1 ≤ f) (hf1 : f ≤ 4) :
    Calls Try.prog 17 #[.pointer (some ⟨b, 0, none⟩), .agg (amsg (f : Int) 1 1 (rd : Int) ok).toArray, .int .i64 0] w fun e w' => ∃ r2 : Rf, e = .returned (.agg r2.out) ∧ LdRE w' b pb x (tell T f rd) (done || decide (3 ≤ cn (tell T f rd) 5)) ∧
      w'.ownsRow w.heap.size 46 2 (.slice r2.dn.1 r2.dn.2.1 r2.dn.2.2) r2.dn.2.1 (dns (if !done && decide (3 ≤ cn (tell T f rd) 5) then [⟨7, 1, 2⟩] else [])) ∧ Keeps [b, pb] w w' := by
  obtain ⟨r, g, ps, p0, h⟩ := h
  have hlen := h.len
  obtain ⟨p, hp⟩ : ∃ p, ps[f]? = some p := ⟨_, List.getElem?_eq_getElem (by omega)⟩
  obtain ⟨hnx, hmt, hak⟩ := h.oth f p hp (by omega)
  have hn' : r.n = (ps.length : Int) := by rw [h.n, hlen]; rfl
  have key : ∀ (c2 : Int) (q : Pe), c2 = 1 → (0 < q.nx ∧ q.nx ≤ 2) → (0 ≤ q.mt ∧ q.mt ≤ 1) → q.ak = max p.ak (min (rd : Int) 2) →
      HdAt b pb r g ps (rlR done) (amsg (f : Int) r.tm 1 rd ok) c2 (ps.set f q) (doneN r.n (ps.set f q) (rlR done)) →
      Calls Try.prog 17 #[.pointer (some ⟨b, 0, none⟩), .agg (amsg (f : Int) 1 1 (rd : Int) ok).toArray, .int .i64 0] w fun e w' => ∃ r2 : Rf, e = .returned (.agg r2.out) ∧ LdRE w' b pb x (tell T f rd) (done || decide (3 ≤ cn (tell T f rd) 5)) ∧
      w'.ownsRow w.heap.size 46 2 (.slice r2.dn.1 r2.dn.2.1 r2.dn.2.2) r2.dn.2.1 (dns (if !done && decide (3 ≤ cn (tell T f rd) 5) then [⟨7, 1, 2⟩] else [])) ∧ Keeps [b, pb] w w' := by
    intro c2 q hc2 hq1 hq2 hq3 H
    have S := rstep_heardX [b, pb, x] b pb f r g ps (rlR done) 1 rd ok 0 c2 (ps.set f q) _ w h.S h.id hn' (by omega) (by omega) h.ro h.Q (by simp) (by simp) H
    rw [h.tm] at S
    have ho : ∀ j p', (ps.set f q)[j]? = some p' → j ≠ 0 → (0 < p'.nx ∧ p'.nx ≤ 2) ∧ (0 ≤ p'.mt ∧ p'.mt ≤ 1) ∧ (2 ≤ p'.ak ↔ 2 ≤ tell T f rd j) := by
      intro j p' hj hj0
      by_cases hjf : j = f
      · subst hjf
        rw [List.getElem?_set_self (by omega)] at hj
        have := Option.some.inj hj
        subst this
        refine ⟨hq1, hq2, ?_⟩
        unfold tell
        rw [if_pos rfl, hq3]
        constructor
        · intro h1
          rcases Int.le_total 2 p.ak with h2 | h2
          · have := hak.1 h2; omega
          · omega
        · intro h1
          rcases Nat.le_total 2 (T j) with h2 | h2
          · have := hak.2 h2; omega
          · omega
      · rw [List.getElem?_set_ne (fun e => hjf e.symm)] at hj
        have := h.oth j p' hj hj0
        unfold tell
        rw [if_neg hjf]
        exact this
    have hown : (ps.set f q)[0]? = some p0 := by rw [List.getElem?_set_ne (by omega)]; exact h.own
    have hac := acks_cn (T := tell T f rd) (by rw [List.length_set]; exact hlen) hown h.ak (fun j p' h1 h2 => (ho j p' h1 h2).2.2)
    have hdn : doneN r.n (ps.set f q) (rlR done) = if !done && decide (3 ≤ cn (tell T f rd) 5) then 1 else 0 := by
      rw [h.n]
      cases done with
      | true => simp [rlR, doneN]
      | false =>
        simp only [rlR, Bool.false_eq_true, if_false, doneN, hac, Bool.not_false, Bool.true_and, decide_eq_true_eq]
        by_cases hc : 3 ≤ cn (tell T f rd) 5
        · rw [if_pos (by omega), if_pos hc]
        · rw [if_neg (by omega), if_neg hc]
    rw [hdn] at S
    refine S.mono ?_
    rintro e w' ⟨m, d, s, ys, rfl, hT, _, hD, hk, hQ⟩
    refine ⟨_, rfl, ?_, ?_, hk⟩
    · have hrl : (rlR done).drop (if !done && decide (3 ≤ cn (tell T f rd) 5) then 1 else 0) = rlR (done || decide (3 ≤ cn (tell T f rd) 5)) := by
        cases done <;> cases decide (3 ≤ cn (tell T f rd) 5) <;> rfl
      rw [hrl] at hT hQ
      exact ⟨_, _, _, p0, { S := hT, Q := hQ, id := h.id, n := h.n, tm := rfl, ro := h.ro, rd := h.rd, cm := hc2, base := h.base, last := h.last, len := by rw [List.length_set]; exact hlen, own := hown, ak := h.ak, oth := ho }⟩
    · have htk : (rlR done).take (if !done && decide (3 ≤ cn (tell T f rd) 5) then 1 else 0) = if !done && decide (3 ≤ cn (tell T f rd) 5) then [⟨7, 1, 2⟩] else [] := by
        cases done <;> cases decide (3 ≤ cn (tell T f rd) 5) <;> rfl
      rw [htk] at hD
      exact hD
  have hrl1 : (rlR done).length ≤ 1000 := by cases done <;> simp [rlR]
  have hlast := h.last
  have hcm := h.cm
  cases ok with
  | true =>
    refine key (counted r g (ps.set f ((p.acks rd r.rd).forth 1))) ((p.acks rd r.rd).forth 1) ?_ (forth_nx' _ 1 1 hnx hmt.1 (by show max p.mt 1 ≤ 1; omega)) (by rw [forth_mt']; show 0 ≤ max p.mt 1 ∧ max p.mt 1 ≤ 1; omega) (by rw [forth_ak, h.rd]; rfl)
      (hd_ok b pb f r g ps p (rlR done) r.tm 1 rd hp h.S.ms h.S.dn (by rw [h.base]; omega) (by omega) hn' (by omega) hrl1 (by omega) (by omega) hmt.1 (by omega) (by rw [h.base]; exact hnx.1) (by rw [h.base]; omega) (by omega))
    exact counted_char 1 (by omega) (by omega) (.inl hcm.symm) (fun i h1 h2 => by omega)
  | false =>
    refine key r.cm ((p.acks rd r.rd).back 1) hcm (by show 0 < max (min p.nx (1 + 1)) (p.mt + 1) ∧ max (min p.nx (1 + 1)) (p.mt + 1) ≤ 2; omega) hmt (by show max p.ak (min (rd : Int) r.rd) = _; rw [h.rd])
      (hd_no b pb f r g ps p (rlR done) r.tm 1 rd hp h.S.ms h.S.dn (by rw [h.base]; omega) (by omega) hn' (by omega) hrl1 (by omega) (by omega) hmt.1 (by omega) (by rw [h.base]; omega) (by omega))
theorem own_cell {w : World} {N sz n c : Nat} {e : TypeId} {ao : Option Addr} {xs : List Value} (h : w.ownsRow N e sz (.slice ao n c) n xs) {j : Nat} {u : Value} (hj : xs[j]? = some u) : ∃ g, ao = some ⟨g, 0, none⟩ ∧ g < w.heap.size ∧ w.cell? ⟨g, j, none⟩ = some u := by
  have hlt := own_lt h
  rcases h.2 with ⟨_, rfl⟩ | ⟨g, cap, cur, he, hb, hg, rest⟩
  · have := h.1
    have hx : xs = [] := List.eq_nil_of_length_eq_zero (by simpa using this)
    rw [hx] at hj
    simp at hj
  · simp only [Value.slice.injEq] at he
    obtain ⟨rfl, _, rfl⟩ := he
    have hc := World.ownsRow.cells h (g := g) rfl j u hj
    rw [Addr.add_lit] at hc
    exact ⟨g, rfl, (hlt g (by simp)).2, by simpa using hc⟩

/-- what the leader knows when so many have answered -/
def psR (k : Nat) : List Pe := [⟨1, 1, 1, 0⟩, if 1 ≤ k then ⟨2, 1, 1, 0⟩ else ⟨1, 0, 0, 0⟩, if 2 ≤ k then ⟨2, 1, 1, 0⟩ else ⟨1, 0, 0, 0⟩, ⟨1, 0, 0, 0⟩, ⟨1, 0, 0, 0⟩]

structure LdP (w : World) (b pb k : Nat) (r : Rf) (g : Lg) : Prop where
  S : RT w b pb r g (psR k) []
  id : r.id = 0
  n : r.n = 5
  tm : r.tm = 1
  ro : r.ro = 2
  rd : r.rd = 1
  cm : r.cm = if 2 ≤ k then 1 else 0
  base : g.base = 0
  last : g.last = 1
  top : g.at 1 = 1
def LdPE (w : World) (b pb k : Nat) : Prop := ∃ r g, LdP w b pb k r g
theorem LdPE.keep {w w' : World} {b pb k : Nat} {L : List Nat} (h : LdPE w b pb k) (hk : Keeps L w w') (hL : ∀ x ∈ L, w.heap.size ≤ x) : LdPE w' b pb k := by
  obtain ⟨r, g, h⟩ := h
  exact ⟨r, g, { h with S := h.S.keep hk hL }⟩

def r0R (lg vb : Nat) : Rf := ((fol (5 : Nat) 0 lg 0 9 10).cand vb 5 0).bare

theorem vote1 {w : World} {b vb lg : Nat} (h : CT w b vb (r0R lg vb) ⟨0, 0, []⟩ (own1 0 5)) :
    Calls Try.prog 17 #[.pointer (some ⟨b, 0, none⟩), .agg (wmsg 1 1).toArray, .int .i64 0] w fun e w' => ∃ v, e = .returned v ∧ CT w' b vb (r0R lg vb).bare ⟨0, 0, []⟩ ((own1 0 5).set 1 true) ∧ Keeps [b, vb] w w' :=
  rstep_voted_no b vb 1 _ ⟨0, 0, []⟩ (own1 0 5) 0 w h rfl rfl (by omega) (by rw [own1_len]; omega) (by rw [own1_len]; omega) (by show _ ≤ (5 : Int); decide)

theorem vote2 {w : World} {b vb lg : Nat} (h : CT w b vb (r0R lg vb).bare ⟨0, 0, []⟩ ((own1 0 5).set 1 true)) :
    Calls Try.prog 17 #[.pointer (some ⟨b, 0, none⟩), .agg (wmsg 2 1).toArray, .int .i64 0] w fun e w' => ∃ v pb, e = .returned v ∧ w.heap.size ≤ pb ∧ LdPE w' b pb 0 ∧ Keeps [b, vb, lg] w w' := by
  have hl5 : ((own1 0 5).set 1 true).length = 5 := rfl
  have hl : (⟨0, 0, []⟩ : Lg).last = 0 := rfl
  have S := rstep_voted_yes b vb 2 _ ⟨0, 0, []⟩ ((own1 0 5).set 1 true) 0 w h rfl rfl (by omega) (by rw [hl5]; omega) (by rw [hl5]; omega) (by show (5 : Int) < _; decide) (Int.le_refl _) (by rw [hl]; omega) (Int.le_refl _) (by rw [hl]; show (0 : Int) ≤ 0; omega)
  refine S.mono ?_
  rintro e w' ⟨v, pb, rfl, hp, hT, hk⟩
  have hcm : (((r0R lg vb).bare.ledN pb 0 ((own1 0 5).set 1 true).length ⟨0, 0, []⟩).bare).cm = 0 :=
    ledN_cm (r := (r0R lg vb).bare) (n := ((own1 0 5).set 1 true).length) rfl (by rw [hl5]; omega) (by rw [hl5]; omega) (Int.le_refl _) (by rw [hl]; show (0 : Int) ≤ 0; omega)
  exact ⟨v, pb, rfl, hp, ⟨_, _, { S := hT, id := rfl, n := rfl, tm := rfl, ro := rfl, rd := rfl, cm := hcm, base := rfl, last := rfl, top := rfl }⟩, hk⟩

theorem ldp_step {w : World} {b pb k : Nat} (h : LdPE w b pb k) (hk : k < 2) :
    Calls Try.prog 17 #[.pointer (some ⟨b, 0, none⟩), .agg (amsg ((k + 1 : Nat) : Int) 1 1 1 true).toArray, .int .i64 0] w fun e w' => (∃ v, e = .returned v) ∧ LdPE w' b pb (k + 1) ∧ Keeps [b, pb] w w' := by
  obtain ⟨r, g, h⟩ := h
  have hlast := h.last
  have hcm := h.cm
  have h01 : k = 0 ∨ k = 1 := by omega
  have hcm0 : r.cm = 0 := by rcases h01 with rfl | rfl <;> simpa using hcm
  have hp : (psR k)[k + 1]? = some ⟨1, 0, 0, 0⟩ := by rcases h01 with rfl | rfl <;> rfl
  have hn' : r.n = ((psR k).length : Int) := h.n
  have H := hd_ok b pb (k + 1) r g (psR k) ⟨1, 0, 0, 0⟩ [] r.tm 1 1 hp h.S.ms h.S.dn (by rw [h.base]; omega) (by omega) hn' (by simp [psR]) (by simp) (by omega) (by omega) (by simp only []; omega) (by simp only []; omega) (by rw [h.base]; simp only []; omega) (by rw [h.base]; omega) (by omega)
  have S := rstep_heard b pb (k + 1) r g (psR k) [] 1 1 true 0 _ _ _ w h.S h.id hn' (by omega) (by simp [psR]; omega) h.ro H
  rw [h.tm] at S
  have hps : (psR k).set (k + 1) (((⟨1, 0, 0, 0⟩ : Pe).acks 1 r.rd).forth 1) = psR (k + 1) := by
    rw [h.rd]
    rcases h01 with rfl | rfl <;> rfl
  rw [hps] at S
  refine S.mono ?_
  rintro e w' ⟨m, d, s, ys, rfl, hT, _, _, hk'⟩
  have hcu : counted r g (psR (k + 1)) = if 2 ≤ k + 1 then 1 else 0 := by
    rcases h01 with rfl | rfl
    · refine counted_char 0 (by omega) (by omega) (.inl hcm0.symm) (fun i h1 h2 => ?_)
      obtain rfl : i = 1 := by omega
      simp only [okc, h.n]
      rw [show have_ (psR (0 + 1)) 1 = 2 from rfl]
      simp
    · refine counted_char 1 (by omega) (by omega) (.inr ?_) (fun i h1 h2 => by omega)
      simp only [okc, h.n, h.tm, h.top]
      rw [show have_ (psR (1 + 1)) 1 = 3 from rfl]
      decide
  exact ⟨⟨_, rfl⟩, ⟨_, _, { S := hT, id := h.id, n := h.n, tm := rfl, ro := h.ro, rd := h.rd, cm := hcu, base := h.base, last := h.last, top := h.top }⟩, hk'⟩

theorem ldp_role {w : World} {b pb k : Nat} (h : LdPE w b pb k) : Calls Try.prog 10 #[.pointer (some ⟨b, 0, none⟩)] w fun e w' => e = .returned (.int .i64 2) ∧ w' = w := by
  obtain ⟨r, g, h⟩ := h
  have := rrole b r w h.S.R.B
  rwa [h.ro] at this
theorem ldp_commit {w : World} {b pb : Nat} (h : LdPE w b pb 2) : Calls Try.prog 13 #[.pointer (some ⟨b, 0, none⟩)] w fun e w' => e = .returned (.int .u64 1) ∧ w' = w := by
  obtain ⟨r, g, h⟩ := h
  have := rcommit b r w h.S.R.B
  rwa [h.cm] at this

theorem ldp_read {w : World} {b pb : Nat} (h : LdPE w b pb 2) :
    Calls Try.prog 16 #[.pointer (some ⟨b, 0, none⟩), .int .u64 7] w fun e w' => ∃ r2 : Rf, e = .returned (.tuple #[.agg r2.out, .nilIface]) ∧ r2.dn.2.1 = 0 ∧ r2.ms.2.1 = 4 ∧ (∃ mb, r2.ms.1 = some ⟨mb, 0, none⟩ ∧ mb < w'.heap.size ∧ w'.cell? ⟨mb, 8, none⟩ = some (.int .u64 2)) ∧
      (∀ x, w'.heap.size ≤ x → LdRE w' b pb x (fun _ => 0) false) ∧ Keeps [b, pb] w w' := by
  obtain ⟨r, g, h⟩ := h
  have hcm : r.cm = 1 := h.cm
  have hlast := h.last
  have R := rread b pb 0 r g (psR 2) ⟨1, 1, 1, 0⟩ 7 w h.S h.id h.n (by simp [psR]) rfl h.ro (by rw [h.base]; omega) (by omega) (by rw [h.base]; omega) (by omega) (by rw [hcm, h.tm]; exact h.top) (by rw [h.rd]; omega) (by rw [h.rd]; omega) ?_ 0 (by rw [h.n, h.rd]; rfl)
  · rw [hcm, h.rd] at R
    refine R.mono ?_
    rintro e w' ⟨m, d, s, ys, rfl, hT, hm4, hO, hF, hD, hk⟩
    have hm4' : m.2.1 = 4 := hm4
    have hF8 : ys[8]? = some (.int .u64 2) := Fed.round (i := 1) (l := [2, 3, 4]) hF
    obtain ⟨mb, e1, e2, e3⟩ := own_cell hO hF8
    refine ⟨_, rfl, ?_, hm4', ⟨mb, e1, e2, e3⟩, ?_, hk⟩
    · have h1 := hD.1
      have h2 : d.2.1 * 2 = 0 := h1.symm
      show d.2.1 = 0
      omega
    · intro x hx
      refine ⟨_, _, _, ⟨1, 1, 2, 0⟩, { S := hT, Q := hT.Q.add (fun y hy => by simp at hy ⊢; omega), id := h.id, n := h.n, tm := h.tm, ro := h.ro, rd := rfl, cm := rfl, base := h.base, last := h.last, len := rfl, own := rfl, ak := rfl, oth := ?_ }⟩
      intro j p hj hj0
      match j, hj0, hj with
      | 1, _, hj => obtain rfl : (⟨2, 1, 1, 0⟩ : Pe) = p := Option.some.inj hj; simp
      | 2, _, hj => obtain rfl : (⟨2, 1, 1, 0⟩ : Pe) = p := Option.some.inj hj; simp
      | 3, _, hj => obtain rfl : (⟨1, 0, 0, 0⟩ : Pe) = p := Option.some.inj hj; simp
      | 4, _, hj => obtain rfl : (⟨1, 0, 0, 0⟩ : Pe) = p := Option.some.inj hj; simp
      | j + 5, _, hj => exact absurd hj (by simp [psR])
  · intro j q hj hj0
    rw [h.base, hlast]
    match j, hj0, hj with
    | 1, _, hj => obtain rfl : (⟨2, 1, 1, 0⟩ : Pe) = q := Option.some.inj hj; simp
    | 2, _, hj => obtain rfl : (⟨2, 1, 1, 0⟩ : Pe) = q := Option.some.inj hj; simp
    | 3, _, hj => obtain rfl : (⟨1, 0, 0, 0⟩ : Pe) = q := Option.some.inj hj; simp
    | 4, _, hj => obtain rfl : (⟨1, 0, 0, 0⟩ : Pe) = q := Option.some.inj hj; simp
    | j + 5, _, hj => exact absurd hj (by simp [psR])
end Go.Proofs.Ytbegjhfkfmhidaa
