/- A node of raft that is alone: as a whole. It waits, then it leads; a leader's Propose, Read and what it tells. -/
import Derived.Test.YtdeaelbelcjhcaaDoorRaft10

namespace Go.Proofs.YtdeaelbelcjhcaaDoor
open Go.RowKit

/-- a node that leads alone, with all committed -/
def Lead (w : World) (b lg pb : Nat) (tm rd cm : Int) : Prop :=
  ∃ (r : Rf) (g : Lg) (nx mt ak : Int) (ao : Option Addr) (c : Nat), Blk w b 63 r.cells ∧ Blk w pb 78 (peer nx mt ak) ∧ LogAt w r.lg g ∧ r.lg = lg ∧ r.id = 0 ∧ r.n = 1 ∧ r.tm = tm ∧ r.ro = 2 ∧ r.ld = 0 ∧ r.rd = rd ∧ r.cm = cm ∧ r.fr = 0 ∧
    r.ms = (none, 0, 0) ∧ r.ps = (some ⟨pb, 0, none⟩, 1, 1) ∧ r.rs = (ao, 0, c) ∧ (∀ ad, ao = some ad → ad.spot = none) ∧ r.dn = (none, 0, 0) ∧ g.base = 0 ∧ g.last = cm ∧ g.at g.last = tm

/-- a node that waits, or leads at last -/
def Wait (N : Nat) (w : World) (b lg : Nat) (tm T k : Int) : Prop :=
  (k < T ∧ Blk w b 63 (alone tm lg k T).cells ∧ LogAt w lg ⟨0, 0, []⟩) ∨ (k = T ∧ ∃ pb, N ≤ pb ∧ Lead w b lg pb (tm + 1) 1 1)

theorem tick_any (N b lg : Nat) (tm T k d : Int) (w : World) (h : Wait N w b lg tm T k) (hN : N ≤ w.heap.size) (hT : T < 1000) (hk0 : 0 ≤ k) (hk : k < T) (ht0 : 0 ≤ tm) (ht1 : tm < 1000000) :
    Calls Tryd.prog 7 #[.pointer (some ⟨b, 0, none⟩), .int .i64 d] w fun e w' => (∃ v, e = .returned v) ∧ Wait N w' b lg tm T (k + 1) ∧ Keeps [b, lg] w w' := by
  rcases h with ⟨_, hB, hL⟩ | ⟨h, _⟩
  rotate_left
  · omega
  have hbl : b ≠ lg := by rintro rfl; obtain ⟨_, _, hL0, _, _⟩ := hL; exact absurd rfl (hB.ne hL0 (by decide))
  by_cases hc : k + 1 < T
  · refine (rtick_wait b (alone tm lg k T) d w hB rfl hk0 hc hT).mono ?_
    rintro e w' ⟨he, hB', hk'⟩
    exact ⟨he, .inl ⟨hc, hB', hL.keepB hk' hB (Rf.nostr _) (fun e => hbl e.symm)⟩, hk'.mono (by intro x hx; simp at hx; simp [hx])⟩
  · refine (rtick_stand b (alone tm lg k T) ⟨0, 0, []⟩ d w hB hL rfl hk0 (by simp only [alone]; omega) (by simp only [alone]; omega) rfl rfl rfl (Int.le_refl _) (by simp [Lg.last]) (by simp [Lg.last, alone]) ht0 ht1).mono ?_
    rintro e w' ⟨pb, vb, he, hp, hB', hP', hL', hk'⟩
    refine ⟨he, .inr ⟨by omega, pb, by omega, _, _, _, _, _, none, 0, hB', hP', hL', rfl, rfl, rfl, rfl, rfl, rfl, rfl, ?_, rfl, rfl, rfl, rfl, (fun _ h => by cases h), rfl, rfl, ?_, ?_⟩, hk'⟩
    · rfl
    · rw [Lg.last_snoc]; rfl
    · rw [Lg.last_snoc, Lg.at_snoc]; rfl

theorem lead_role {w : World} {b lg pb : Nat} {tm rd cm : Int} (h : Lead w b lg pb tm rd cm) :
    Calls Tryd.prog 9 #[.pointer (some ⟨b, 0, none⟩)] w fun e w' => e = .returned (.int .i64 2) ∧ w' = w := by
  obtain ⟨r, g, nx, mt, ak, ao, c, hB, hP, hL, e1, e2, e3, e4, e5, e6, e7, e8, e9, e10, e11, e12, e13, e14, e15, e16, e17⟩ := h
  have := rrole b r w hB
  rwa [e5] at this

theorem lead_term {w : World} {b lg pb : Nat} {tm rd cm : Int} (h : Lead w b lg pb tm rd cm) :
    Calls Tryd.prog 14 #[.pointer (some ⟨b, 0, none⟩)] w fun e w' => e = .returned (.int .u64 tm) ∧ w' = w := by
  obtain ⟨r, g, nx, mt, ak, ao, c, hB, hP, hL, e1, e2, e3, e4, e5, e6, e7, e8, e9, e10, e11, e12, e13, e14, e15, e16, e17⟩ := h
  have := rterm b r w hB
  rwa [e4] at this

theorem lead_commit {w : World} {b lg pb : Nat} {tm rd cm : Int} (h : Lead w b lg pb tm rd cm) :
    Calls Tryd.prog 13 #[.pointer (some ⟨b, 0, none⟩)] w fun e w' => e = .returned (.int .u64 cm) ∧ w' = w := by
  obtain ⟨r, g, nx, mt, ak, ao, c, hB, hP, hL, e1, e2, e3, e4, e5, e6, e7, e8, e9, e10, e11, e12, e13, e14, e15, e16, e17⟩ := h
  have := rcommit b r w hB
  rwa [e8] at this

theorem lead_propose {w : World} {b lg pb : Nat} {tm rd cm : Int} (cl sq : Int) (sql : ByteArray) (h : Lead w b lg pb tm rd cm) (hc : cm < 900000) :
    Calls Tryd.prog 12 #[.pointer (some ⟨b, 0, none⟩), .int .u64 cl, .int .u64 sq, .string sql] w fun e w' =>
      (∃ y1 y2 n1 n2 n3 p1 p2 p3, e = .returned (.tuple #[.int .u64 (cm + 1), .agg #[.slice none 0 0, .int .u64 y1, .int .i64 y2, .int .u64 (cm + 1), .slice n1 n2 n3, .slice p1 p2 p3], .nilIface])) ∧
      Lead w' b lg pb tm rd (cm + 1) ∧ Keeps [b, pb, lg] w w' := by
  obtain ⟨r, g, nx, mt, ak, ao, c, hB, hP, hL, e1, e2, e3, e4, e5, e6, e7, e8, e9, e10, e11, e12, e13, e14, e15, e16, e17⟩ := h
  subst e1
  refine (rpropose1 b pb r g nx mt ak cl sq sql w hB hP hL e2 e3 e5 e9 e11 (by omega) (by omega) (by omega)).mono ?_
  rintro e w' ⟨rfl, hB', hP', hL', hk'⟩
  have e18 := e16
  rw [e16] at hB' hP'
  rw [e16]
  refine ⟨⟨r.tm, r.vt, r.dn.1, r.dn.2.1, r.dn.2.2, r.ins.1, r.ins.2.1, r.ins.2.2, ?_⟩, ?_, hk'⟩
  · simp only [Rf.out, e10]
  · refine ⟨_, _, _, _, _, ao, c, hB', hP', hL', rfl, e2, e3, e4, e5, e6, e7, rfl, rfl, rfl, e11, e12, e13, rfl, e15, ?_, ?_⟩
    · rw [Lg.last_snoc, e18]
    · rw [Lg.last_snoc, Lg.at_snoc]; exact e4

theorem lead_read {w : World} {b lg pb : Nat} {tm rd cm : Int} (tag : Int) (h : Lead w b lg pb tm rd cm) (hc0 : 0 < cm) (hc : cm < 900000) (hr0 : 0 ≤ rd) (hr1 : rd < 1000000) :
    Calls Tryd.prog 10 #[.pointer (some ⟨b, 0, none⟩), .int .u64 tag] w fun e w' =>
      (∃ m1 m2 m3 y1 y2 y3 a1 c1 p1 p2 p3, e = .returned (.tuple #[.agg #[.slice m1 m2 m3, .int .u64 y1, .int .i64 y2, .int .u64 y3, .slice a1 1 c1, .slice p1 p2 p3], .nilIface]) ∧ Sl w' 2 a1 1 c1 [.int .u64 tag, .int .u64 cm]) ∧
      Lead w' b lg pb tm (rd + 1) cm ∧ Keeps [b, pb] w w' := by
  obtain ⟨r, g, nx, mt, ak, ao, c, hB, hP, hL, e1, e2, e3, e4, e5, e6, e7, e8, e9, e10, e11, e12, e13, e14, e15, e16, e17⟩ := h
  subst e1
  refine (rread1 b pb r g nx mt ak tag ao c w hB hP hL e2 e3 e5 e11 e12 e13 e14 (by omega) (by omega) (by omega) (by omega) (by rw [e17, e4]) (by omega) (by omega)).mono ?_
  rintro e w' ⟨a1, c1, a2, c2, rfl, hS', hsp', hB', hP', hL', hk'⟩
  rw [e16] at hS'
  refine ⟨⟨_, _, _, _, _, _, _, _, _, _, _, rfl, hS'⟩, ?_, hk'⟩
  exact ⟨_, g, _, _, _, a2, c2, hB', hP', hL', rfl, e2, e3, e4, e5, e6, by rw [← e7]; rfl, e8, rfl, rfl, e11, rfl, hsp', rfl, e15, e16, e17⟩
end Go.Proofs.YtdeaelbelcjhcaaDoor
