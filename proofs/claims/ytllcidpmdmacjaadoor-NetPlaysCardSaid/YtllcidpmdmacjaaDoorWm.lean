/- A reader of bytes: count, sql. -/
import Derived.Test.YtllcidpmdmacjaaDoorWl

namespace Go.Proofs.YtllcidpmdmacjaaDoor
open Go.RowKit Go.Lib

theorem uint_lt (s : St) : s.uint.1 < 18446744073709551616 := by
  unfold St.uint
  split
  · exact rdU_lt _
  · show 0 < _
    decide
theorem uint_bad {s : St} (h : s.uint.2.f ≠ 0) : s.uint.1 = 0 := by
  unfold St.uint at h ⊢
  split
  · rename_i h0
    rw [if_pos h0] at h
    unfold St.take at h
    rw [if_pos ⟨h0.1, rfl⟩] at h
    exact absurd rfl h
  · rfl

set_option maxRecDepth 100000 in
set_option maxHeartbeats 1000000 in
theorem rd_count {N : Nat} (r : Nat) (s : St) (m : Nat) (w : World) (h : RdAt N w r s) (hm63 : m < 9223372036854775808) :
    Calls Tryd.prog 38 #[.pointer (some ⟨r, 0, none⟩), .int .i64 m] w fun e w' => e = .returned (.int .i64 (s.count m).1) ∧ RdAt N w' r (s.count m).2 ∧ Keeps [r] w w' := by
  have P := rd_uint r s w h
  have hu := uint_lt s
  have hub : s.uint.2.f ≠ 0 → s.uint.1 = 0 := uint_bad
  have q0 : IntKind.u64.wrap (m : Int) = m := IntWalk.u64_in _ (by omega)
  generalize hst : s.count m = sm
  unfold St.count at hst
  generalize hsu : s.uint = su at *
  obtain ⟨u, t⟩ := su
  simp only [] at hst P hu hub
  clear hsu
  have HST := Lib.hid hst
  have HUB := Lib.hid hub
  clear hst hub
  go_enter Tryd.func38, Tryd.ntmps38
  go_wp2_with fail
  refine P.mono ?_
  rintro e w1 ⟨rfl, h1, hk1⟩
  clear P h
  by_cases hmu : m < u
  · have n1 : (m : Int) < (u : Int) := by omega
    have e1 := Lib.hid (show (0, t.fail 20) = sm by rw [← HST.out, if_pos hmu])
    go_wp2_with fail
    refine (wform _ w1).mono ?_
    rintro e w2 ⟨g, rfl, hE, hk2⟩
    go_wp2_with fail
    refine (rd_fails r t _ 20 w2 (h1.keep hk2) (ErrF.of hE (by simp)) (by decide)).mono ?_
    rintro e w3 ⟨rfl, h3, hk3⟩
    obtain ⟨ao2, c2, hS2, hn2, hm2, hc2⟩ := h3.open
    rcases hc2 with ⟨h0, _⟩ | ⟨_, g2, p2, hB2, _⟩
    · exact absurd h0 (fail_f t (by decide))
    have hcc := hB2.cell
    have hll := hB2.lt
    go_wp2_with fail
    go_ret
    exact ⟨by rw [← e1.out]; rfl, by rw [← e1.out]; exact h3, hk1.trans (hk2.of_nil.trans hk3)⟩
  · have n1 : ¬ ((m : Int) < (u : Int)) := by omega
    have e1 := Lib.hid (show (u, t) = sm by rw [← HST.out, if_neg hmu])
    obtain ⟨ao2, c2, hS2, hn2, hm2, hc2⟩ := h1.open
    rcases hc2 with ⟨h0, hB2⟩ | ⟨h0, g2, p2, hB2, _⟩
    · have hcc := hB2.cell
      have hll := hB2.lt
      have q1 : IntKind.i64.wrap (u : Int) = u := IntWalk.i64_in _ (by omega)
      clear h0
      go_wp2_with fail
      go_ret
      exact ⟨by rw [← e1.out]; rfl, by rw [← e1.out]; exact h1, hk1⟩
    · have hcc := hB2.cell
      have hll := hB2.lt
      have e2 := Lib.hid (HUB.out h0)
      clear h0
      go_wp2_with fail
      go_ret
      exact ⟨by rw [← e1.out, e2.out]; rfl, by rw [← e1.out]; exact h1, hk1⟩

def St.head2 (s : St) : St := match s.l with
  | a :: b :: _ => if 128 ≤ a.toNat ∧ 128 ≤ b.toNat then s.fail 20 else s
  | _ => s
theorem sql_eq (s : St) : s.sql = (s.head2.count 2000).2.bytes (s.head2.count 2000).1 := by unfold St.sql St.head2; rfl

set_option maxRecDepth 100000 in
set_option maxHeartbeats 1000000 in
theorem rd_sql {N : Nat} (r : Nat) (s : St) (w : World) (h : RdAt N w r s) :
    Calls Tryd.prog 40 #[.pointer (some ⟨r, 0, none⟩)] w fun e w' => e = .returned (.string ⟨s.sql.1.toArray⟩) ∧ RdAt N w' r s.sql.2 ∧ Keeps [r] w w' := by
  rw [sql_eq]
  generalize ht : s.head2 = t
  have PC := fun w1 (h1 : RdAt N w1 r t) => rd_count r t 2000 w1 h1 (by decide)
  generalize t.count 2000 = tc at *
  obtain ⟨n, u⟩ := tc
  dsimp only at PC ⊢
  have PB := fun w1 (h1 : RdAt N w1 r u) => rd_bytes r u n w1 h1
  generalize u.bytes n = bx at *
  obtain ⟨x, y⟩ := bx
  dsimp only at PB ⊢
  have HPC := Lib.hid PC
  have HPB := Lib.hid PB
  clear PC PB
  obtain ⟨q, hq⟩ : ∃ q : Bool, (q = true → t = s.fail 20 ∧ ∃ a b r, s.l = a :: b :: r ∧ 128 ≤ a.toNat ∧ 128 ≤ b.toNat) ∧ (q = false → t = s ∧ ∀ a b r, s.l = a :: b :: r → ¬ (128 ≤ a.toNat ∧ 128 ≤ b.toNat)) := by
    unfold St.head2 at ht
    match hl : s.l with
    | [] => rw [hl] at ht; exact ⟨false, by simp, fun _ => ⟨ht.symm, fun a b r e => by simp at e⟩⟩
    | [a] => rw [hl] at ht; exact ⟨false, by simp, fun _ => ⟨ht.symm, fun a b r e => by simp at e⟩⟩
    | a :: b :: l =>
      rw [hl] at ht
      dsimp only at ht
      by_cases hab : 128 ≤ a.toNat ∧ 128 ≤ b.toNat
      · rw [if_pos hab] at ht
        exact ⟨true, fun _ => ⟨ht.symm, a, b, l, rfl, hab⟩, by simp⟩
      · rw [if_neg hab] at ht
        refine ⟨false, by simp, fun _ => ⟨ht.symm, fun a b r e => ?_⟩⟩
        simp only [List.cons.injEq] at e
        obtain ⟨rfl, rfl, rfl⟩ := e
        exact hab
  have HQ := Lib.hid hq
  clear hq ht
  obtain ⟨ao, c, hS, hn, hm, hc⟩ := h.open
  have hc0 : w.cell? ⟨r, 0, none⟩ = some (.slice ao s.l.length c) := by
    rcases hc with ⟨_, hB⟩ | ⟨_, g, p, hB, _⟩ <;> (rw [hB.cell]; rfl)
  have hlr : r < w.heap.size := by rcases hc with ⟨_, hB⟩ | ⟨_, g, p, hB, _⟩ <;> exact hB.lt
  clear hc
  have H := Lib.hid h
  clear h
  go_enter Tryd.func40, Tryd.ntmps40
  go_upto_region 1 with (fail)
  go_cut [26] (fun v wx => v = .bool q ∧ wx = w)
  case first =>
    match hl : s.l with
    | [] =>
      have e1 : q = false := by
        cases q with
        | false => rfl
        | true => obtain ⟨_, a, b, l, e, _⟩ := HQ.out.1 rfl; rw [hl] at e; simp at e
      rw [hl] at hc0
      simp only [List.length_nil] at hc0
      subst e1
      clear hl
      go_wp2_with fail
      go_meet
      exact ⟨rfl, rfl⟩
    | [a] =>
      have e1 : q = false := by
        cases q with
        | false => rfl
        | true => obtain ⟨_, a, b, l, e, _⟩ := HQ.out.1 rfl; rw [hl] at e; simp at e
      rw [hl] at hc0
      simp only [List.length_cons, List.length_nil] at hc0
      subst e1
      clear hl
      go_wp2_with fail
      go_meet
      exact ⟨rfl, rfl⟩
    | a :: b :: l =>
      obtain ⟨bb, o, rfl⟩ := hS.at (by have := hS.cap; rw [hl] at this; simp at this; omega)
      have c0 := hS.cell _ rfl 0 _ (bys_at (by rw [hl]; simp))
      have c1 := hS.cell _ rfl 1 _ (bys_at (by rw [hl]; simp))
      have b0 : s.l[0]'(by rw [hl]; simp) = a := by simp [hl]
      have b1 : s.l[1]'(by rw [hl]; simp) = b := by simp [hl]
      rw [b0] at c0
      rw [b1] at c1
      simp only [Nat.add_zero] at c0
      have n0 : (1 : Int) < (s.l.length : Int) := by rw [hl]; simp; omega
      have n9 : (0 : Int) < (s.l.length : Int) := by omega
      have hy : (128 ≤ a.toNat ∧ 128 ≤ b.toNat) → q = true := by
        intro hh
        cases q with
        | true => rfl
        | false => exact absurd hh ((HQ.out.2 rfl).2 a b l hl)
      have hno : ¬ (128 ≤ a.toNat ∧ 128 ≤ b.toNat) → q = false := by
        intro hh
        cases q with
        | false => rfl
        | true =>
          obtain ⟨_, a', b', l', e, hab⟩ := HQ.out.1 rfl
          rw [hl] at e
          simp only [List.cons.injEq] at e
          obtain ⟨rfl, rfl, rfl⟩ := e
          exact absurd hab hh
      clear hl b0 b1
      by_cases h1 : 128 ≤ a.toNat
      · have n1 : (128 : Int) ≤ (a.toNat : Int) := by omega
        by_cases h2 : 128 ≤ b.toNat
        · have n2 : (128 : Int) ≤ (b.toNat : Int) := by omega
          have e1 := Lib.hid (hy ⟨h1, h2⟩)
          clear hy hno
          go_wp2_with fail
          go_meet
          exact ⟨by rw [e1.out], rfl⟩
        · have n2 : ¬ ((128 : Int) ≤ (b.toNat : Int)) := by omega
          have e1 := Lib.hid (hno (fun x => h2 x.2))
          clear hy hno
          go_wp2_with fail
          go_meet
          exact ⟨by rw [e1.out], rfl⟩
      · have n1 : ¬ ((128 : Int) ≤ (a.toNat : Int)) := by omega
        have e1 := Lib.hid (hno (fun x => h1 x.1))
        clear hy hno
        go_wp2_with fail
        go_meet
        exact ⟨by rw [e1.out], rfl⟩
  case rest =>
  obtain ⟨rfl, rfl⟩ := hcut
  clear hc0 hS
  go_upto_if 26 with (fail)
  go_cut [] (fun wx => RdAt N wx r t ∧ Keeps [r] wc wx)
  case first =>
    cases q with
    | true =>
      have e1 := Lib.hid (HQ.out.1 rfl).1
      clear HQ
      go_wp2_with fail
      refine (wform _ _).mono ?_
      rintro e w2 ⟨g, rfl, hE, hk2⟩
      go_wp2_with fail
      refine (rd_fails r s _ 20 w2 (H.out.keep hk2) (ErrF.of hE (by simp)) (by decide)).mono ?_
      rintro e w3 ⟨rfl, h3, hk3⟩
      go_wp2_with fail
      go_meet
      exact ⟨by rw [e1.out]; exact h3, hk2.of_nil.trans hk3⟩
    | false =>
      have e1 := Lib.hid (HQ.out.2 rfl).1
      clear HQ
      go_wp2_with fail
      go_meet
      exact ⟨by rw [e1.out]; exact H.out, Keeps.refl _ _⟩
  case rest =>
    obtain ⟨h1, hk1⟩ := hcut
    clear H HQ
    go_wp2_with fail
    refine (HPC.out _ h1).mono ?_
    rintro e w2 ⟨rfl, h2, hk2⟩
    have hk02 := hk1.trans hk2
    clear HPC h1 hk1 hk2
    go_wp2_with fail
    refine (HPB.out _ h2).mono ?_
    rintro e w7 ⟨ao, c, rfl, hR7, h7, hk7⟩
    have r1 := run_text hR7 34 9 Tryd.underlying34 Tryd.underlying9
    go_wp2_with fail
    go_ret
    exact ⟨rfl, h7, hk02.trans hk7⟩
end Go.Proofs.YtllcidpmdmacjaaDoor
