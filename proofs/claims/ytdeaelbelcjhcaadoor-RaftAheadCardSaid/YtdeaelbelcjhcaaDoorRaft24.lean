/- A node of a group: feedsAll. -/
import Derived.Test.YtdeaelbelcjhcaaDoorRaft23


namespace Go.Proofs.YtdeaelbelcjhcaaDoor
open Go.RowKit

/-- the messages to each of a list of nodes -/
def Fed (r : Rf) (g : Lg) (ps : List Pe) (l : List Nat) (ys : List Value) : Prop :=
  ∃ ms : List (List Value), ys = ms.flatten ∧ ms.length = l.length ∧ ∀ (j i : Nat), l[j]? = some i → ∃ p ea el ec, ps[i]? = some p ∧ ms[j]? = some (stamp r (fmsg0 i (p.nx - 1) (g.at (p.nx - 1)) (.slice ea el ec) r.cm r.rd))

theorem Fed.nil (r : Rf) (g : Lg) (ps : List Pe) : Fed r g ps [] [] := ⟨[], rfl, rfl, fun j i h => by simp at h⟩
theorem Fed.snoc {r : Rf} {g : Lg} {ps : List Pe} {l : List Nat} {ys : List Value} (h : Fed r g ps l ys) {i : Nat} {p : Pe} (hp : ps[i]? = some p) (ea : Option Addr) (el ec : Nat) :
    Fed r g ps (l ++ [i]) (ys ++ stamp r (fmsg0 i (p.nx - 1) (g.at (p.nx - 1)) (.slice ea el ec) r.cm r.rd)) := by
  obtain ⟨ms, rfl, hl, hh⟩ := h
  refine ⟨ms ++ [stamp r (fmsg0 i (p.nx - 1) (g.at (p.nx - 1)) (.slice ea el ec) r.cm r.rd)], by simp, by simp [hl], ?_⟩
  intro j i' hj
  rcases Nat.lt_or_ge j l.length with h1 | h1
  · rw [List.getElem?_append_left h1] at hj
    obtain ⟨p', a, b, c, h2, h3⟩ := hh j i' hj
    exact ⟨p', a, b, c, h2, by rw [List.getElem?_append_left (by omega)]; exact h3⟩
  · rw [List.getElem?_append_right h1] at hj
    have hj0 : j - l.length = 0 := by
      rcases Nat.eq_zero_or_pos (j - l.length) with h | h
      · exact h
      · rw [List.getElem?_eq_none (by simp; omega)] at hj; cases hj
    rw [hj0] at hj
    simp only [List.getElem?_cons_zero, Option.some.injEq] at hj
    subst hj
    exact ⟨p, ea, el, ec, hp, by rw [List.getElem?_append_right (by omega), hl, hj0]; rfl⟩

set_option maxRecDepth 100000 in
set_option maxHeartbeats 8000000 in
theorem rfeedsAll (b pb : Nat) (r : Rf) (g : Lg) (ps : List Pe) (id : Nat) (w : World) (hR : RC w w.heap.size b pb r g ps) (hms : r.ms = (none, 0, 0)) (hid : r.id = (id : Int)) (hn : r.n = (ps.length : Int)) (h7 : ps.length ≤ 7)
    (hnx : ∀ j p, ps[j]? = some p → j ≠ id → g.base < p.nx ∧ p.nx ≤ g.last + 1) (h0 : 0 ≤ g.base) (h1 : g.last < 900000) :
    Calls Tryd.prog 19 #[.pointer (some ⟨b, 0, none⟩)] w fun e w' => ∃ ao c ys, e = .returned (.tuple #[]) ∧ RC w' w.heap.size b pb { r with ms := (ao, (oth id ps.length).length, c) } g ps ∧
      Ow w' w.heap.size (ao, (oth id ps.length).length, c) ys ∧ Fed r g ps (oth id ps.length) ys ∧ Keeps [b] w w' := by
  have hl := hR.B.lt
  have HO := rothers b r id ps.length w hR.B hid hn h7
  have hol := oth_le id ps.length
  have hI2 : ∀ (k i : Nat), (oth id ps.length)[k]? = some i → i < ps.length ∧ i ≠ id := by
    intro k i hk
    obtain ⟨h, rfl⟩ := List.getElem?_eq_some_iff.1 hk
    exact oth_mem h
  obtain ⟨l, hle⟩ : ∃ l, oth id ps.length = l := ⟨_, rfl⟩
  rw [hle] at HO hol hI2 ⊢
  clear hle
  have HI := Lib.hid hI2
  go_enter Tryd.func19, Tryd.ntmps19
  go_wp2_with fail
  refine HO.mono ?_
  rintro e w1 ⟨lo, lc, rfl, hI1, hk1⟩
  clear HO
  have hR1 := hR.keep0 hk1
  have HNX := Lib.hid hnx
  have HMS := Lib.hid hms
  have hkb := hk1.of_nil (L := [b])
  clear hI2 hnx hR hk1
  go_wp2_with fail
  go_loopw [7] (fun v7 wr => ∃ (k : Nat) (m : Sl3) (ys : List Value), v7 = .int .i64 (k : Int) ∧ k ≤ l.length ∧ m.2.1 = k ∧ RC wr w.heap.size b pb { r with ms := m } g ps ∧ Ow wr w.heap.size m ys ∧ Fed r g ps (l.take k) ys ∧ wr.ownsRow w.heap.size 3 1 (.slice lo l.length lc) l.length (nats l) ∧ Keeps [b] w wr) (fun v _ => l.length - (intOf v).toNat)
  case atStart =>
    refine ⟨0, (none, 0, 0), [], rfl, by omega, rfl, ?_, Ow.nil _ _, by simpa using Fed.nil r g ps, hI1, hkb⟩
    have := hR1
    rw [← HMS.out]
    exact this
  case round =>
    obtain ⟨k, m, ys, rfl, hk, hmk, hRk, hOk, hFk, hIk, hkk⟩ := hrel
    clear hR1 hI1 hkb
    by_cases hlt : k < l.length
    · have n1 : (k : Int) < (l.length : Int) := by omega
      obtain ⟨ao', c', he, hSl, _⟩ := own_sl hIk (nats_one l)
      simp only [Value.slice.injEq, true_and] at he
      obtain ⟨rfl, rfl⟩ := he
      obtain ⟨bb, o, rfl⟩ := hSl.at (by have := hSl.cap; omega)
      have hcell := hSl.cell _ rfl k (.int .i64 (l[k] : Nat)) (by simp [nats, hlt])
      obtain ⟨hi1, hi2⟩ := HI.out k _ (List.getElem?_eq_getElem hlt)
      have htk : l.take (k + 1) = l.take k ++ [l[k]] := by rw [List.take_succ_eq_append_getElem hlt]
      generalize l[k] = i at *
      have q1 : IntKind.i64.wrap ((k : Int) + 1) = k + 1 := IntWalk.i64_in _ (by omega)
      obtain ⟨p, hp⟩ : ∃ p, ps[i]? = some p := ⟨_, List.getElem?_eq_getElem hi1⟩
      obtain ⟨x1, x2⟩ := HNX.out i p hp hi2
      have HF := Lib.hid (rfeeds w.heap.size b pb { r with ms := m } g ps p i ys wr hRk hOk hp h0 h1 x1 x2 (by simp only []; omega))
      have HTK := Lib.hid htk
      have HMK := Lib.hid hmk
      have HP := Lib.hid hp
      clear htk hmk hp x1 x2 hi1 hi2 hSl
      go_wp2_with fail
      refine HF.out.mono ?_
      rintro e w2 ⟨ao, c, ea, el, ec, rfl, hR2, hO2, hk2⟩
      clear HF
      have hI2 := own_keep hIk hk2 (fun x hx => by
        have h1 := own_lt hIk x hx
        have h2 := own_ne2 hIk hOk (by decide) x hx
        simp only [List.mem_cons, not_or]
        exact ⟨fun e => by have := hRk.bN; omega, h2⟩)
      have hkk2 := hkk.step hk2 (fun x hx => by
        rcases List.mem_cons.1 hx with e | hx
        · exact .inl (by simp [e])
        · exact .inr (own_lt hOk x hx).1)
      clear hk2 hcell hIk hOk hRk hkk
      go_wp2_with fail
      go_roundw
      case rel =>
        refine ⟨k + 1, (ao, m.2.1 + 1, c), _, by simp, by omega, by have := HMK.out; simp only []; omega, hR2, hO2, ?_, hI2, hkk2⟩
        rw [HTK.out]
        exact hFk.snoc HP.out ea el ec
      case measure => simp [intOf]; omega
    · obtain rfl : k = l.length := by omega
      go_wp2_with fail
      go_end0
      obtain ⟨ma, mn, mc⟩ := m
      simp only at hmk
      subst hmk
      exact ⟨ma, mc, ys, rfl, hRk, hOk, by simpa using hFk, hkk⟩
end Go.Proofs.YtdeaelbelcjhcaaDoor
