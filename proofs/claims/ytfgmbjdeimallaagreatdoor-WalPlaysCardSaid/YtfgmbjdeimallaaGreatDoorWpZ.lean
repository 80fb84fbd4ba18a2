/- A reader of bytes: its state as plain data, and its methods' contracts: fails, takes, byte, small. -/
import Derived.Test.YtfgmbjdeimallaaGreatDoorWr
import Derived.Test.YtfgmbjdeimallaaGreatDoorEf
import Derived.Test.YtfgmbjdeimallaaGreatDoorRegZ
import Derived.Deep.Cut
import Derived.Test.YtfgmbjdeimallaaGreatDoorWx

namespace Go.Proofs.YtfgmbjdeimallaaGreatDoor
open Go.RowKit Go.Lib

/-- what a reader has ahead of it, how many bytes it has read, the class of its fault -/
structure St where
  l : List UInt8
  n : Nat
  f : Nat

theorem bys_ne_drop {l : List UInt8} {k : Nat} (h : bys (l.drop k) ≠ []) : bys l ≠ [] := by
  intro h0
  apply h
  unfold bys at h0 ⊢
  have : l = [] := List.map_eq_nil_iff.1 h0
  rw [this]
  simp
theorem bys_ne_take {l : List UInt8} {k : Nat} (h : bys (l.take k) ≠ []) : bys l ≠ [] := by
  intro h0
  apply h
  unfold bys at h0 ⊢
  have : l = [] := List.map_eq_nil_iff.1 h0
  rw [this]
  simp
def RdAt (N : Nat) (w : World) (r : Nat) (s : St) : Prop := ∃ ao c ev, Blk w r 151 #[.slice ao s.l.length c, .int .i64 s.n, ev] ∧ Rb w ao c s.l ∧ ErrF w ev s.f ∧ (∀ ad, ao = some ad → bys s.l ≠ [] → ad.block ≠ r ∧ ad.block < N) ∧ s.n + s.l.length ≤ 4611686018427387904
theorem RdAt.keep {N : Nat} {w w' : World} {r : Nat} {s : St} (h : RdAt N w r s) (hk : Keeps [] w w') : RdAt N w' r s := by
  obtain ⟨ao, c, ev, hB, hS, hE, hn, hm⟩ := h
  exact ⟨ao, c, ev, hB.keep hk (by simp), hS.keep0 hk, hE.keep hk, hn, hm⟩

def St.fail (s : St) (c : Nat) : St := if s.f = 0 then { s with f := c } else s
def St.take (s : St) (k : Nat) (c : Nat) : St := if s.f = 0 ∧ c = 0 then ⟨s.l.drop k, s.n + k, 0⟩ else s.fail c

set_option maxRecDepth 100000 in
theorem rd_fails {N : Nat} (r : Nat) (s : St) (ev : Value) (f : Nat) (w : World) (h : RdAt N w r s) (hE : ErrF w ev f) (hf : f ≠ 0) :
    Calls Tryz.prog 92 #[.pointer (some ⟨r, 0, none⟩), ev] w fun e w' => e = .returned (.tuple #[]) ∧ RdAt N w' r (s.fail f) ∧ Keeps [r] w w' := by
  obtain ⟨ao, c, ev0, hB, hS, hE0, hn, hm⟩ := h
  have hc := hB.cell
  have hl := hB.lt
  have hfr := hB.free
  have hE2 := hE
  rcases hE2 with ⟨_, h1⟩ | ⟨_, ge, pe, rfl, hGe⟩
  · exact absurd h1 hf
  clear hGe
  rcases hE0 with ⟨rfl, h0⟩ | ⟨h0, g, p, rfl, hG⟩
  · have hk := (Keeps.refl [r] w).set (p := ⟨r, 2, none⟩) (by simp) (.iface 95 (.pointer (some ⟨ge, 0, none⟩)))
    have hB' := (hB.put 2 (.iface 95 (.pointer (some ⟨ge, 0, none⟩)))).eq (cs' := #[.slice ao s.l.length c, .int .i64 s.n, .iface 95 (.pointer (some ⟨ge, 0, none⟩))]) (by simp)
    have hst : s.fail f = ⟨s.l, s.n, f⟩ := by unfold St.fail; rw [if_pos h0]
    rw [hst]
    go_enter Tryz.func92, Tryz.ntmps92
    go_wp2_with fail
    go_end0
    exact ⟨rfl, ⟨ao, c, _, hB', hS.keep hk (fun ad e hx => by simpa using (hn ad e hx).1), hE.keepR hB (by decide) hk, hn, hm⟩, hk⟩
  · have hst : s.fail f = s := by unfold St.fail; rw [if_neg h0]
    rw [hst]
    go_enter Tryz.func92, Tryz.ntmps92
    go_wp2_with fail
    go_end0
    exact ⟨rfl, ⟨ao, c, _, hB, hS, .inr ⟨h0, g, p, rfl, hG⟩, hn, hm⟩, Keeps.refl _ _⟩

set_option maxRecDepth 100000 in
set_option maxHeartbeats 1000000 in
theorem rd_takes {N : Nat} (r : Nat) (s : St) (k : Nat) (ev : Value) (f : Nat) (w : World) (h : RdAt N w r s) (hE : ErrF w ev f) (hk : k ≤ s.l.length) :
    Calls Tryz.prog 91 #[.pointer (some ⟨r, 0, none⟩), .int .i64 k, ev] w fun e w' => e = .returned (.tuple #[]) ∧ RdAt N w' r (s.take k f) ∧ Keeps [r] w w' := by
  by_cases hf : f = 0
  · obtain rfl := hE.zero.2 hf
    subst hf
    obtain ⟨ao, c, ev0, hB, hS, hE0, hn0, hm⟩ := h
    have hc := hB.cell
    have hl := hB.lt
    have hfr := hB.free
    rcases hE0 with ⟨rfl, h0⟩ | ⟨h0, g, p, rfl, hG⟩
    · have hst : s.take k 0 = ⟨s.l.drop k, s.n + k, 0⟩ := by unfold St.take; rw [if_pos ⟨h0, rfl⟩]
      rw [hst]
      have q1 : IntKind.i64.wrap ((s.n : Int) + (k : Int)) = s.n + k := IntWalk.i64_in _ (by omega)
      go_enter Tryz.func91, Tryz.ntmps91
      go_upto_region 3 with (fail)
      have hSw : ∀ p ∈ [((5 : Nat), fun w0 : World => w0.cell? ⟨r, 0, none⟩ = some (.slice ao s.l.length c)), (11, fun w0 : World => w0.cell? ⟨r, 1, none⟩ = some (.int .i64 s.n))], p.2 w.drew := by
        intro p hp
        simp at hp
        rcases hp with rfl | rfl <;> go_simp
      refine startU [((5 : Nat), fun w0 : World => w0.cell? ⟨r, 0, none⟩ = some (.slice ao s.l.length c)), (11, fun w0 : World => w0.cell? ⟨r, 1, none⟩ = some (.int .i64 s.n))] (by kernel_rfl) ?_
      refine takeU (i := 0) (v := ?_) rfl (by kernel_rfl) (fun _ _ _ h => h) (Or.inl ⟨by rfl, fun w0 hw0 => ?_⟩) (fun p hp _ => hSw p hp) ?_
      rotate_left
      · simp [Reads] at hw0
        go_simp
        try with_reducible rfl
      try go_simp
      refine takeU (i := 1) (v := ?_) rfl (by kernel_rfl) (fun _ _ _ h => h) (Or.inl ⟨by rfl, fun w0 hw0 => ?_⟩) (fun p hp _ => hSw p hp) ?_
      rotate_left
      · simp [Reads] at hw0
        go_simp
        try with_reducible rfl
      try go_simp
      refine takeU (i := 2) (v := ?_) rfl (by kernel_rfl) (fun _ _ _ h => h) (Or.inl ⟨by rfl, fun w0 hw0 => ?_⟩) (fun p hp _ => hSw p hp) ?_
      rotate_left
      · simp [Reads] at hw0
        go_simp
        try with_reducible rfl
      try go_simp
      refine takeU (i := 3) (v := ?_) rfl (by kernel_rfl) (fun _ _ _ h => h) (Or.inl ⟨by rfl, fun w0 hw0 => ?_⟩) (fun p hp _ => hSw p hp) ?_
      rotate_left
      · simp [Reads] at hw0
        go_simp
        try with_reducible rfl
      try go_simp
      refine takeU (i := 4) (v := ?_) rfl (by kernel_rfl) (fun _ _ _ h => h) (Or.inl ⟨by rfl, fun w0 hw0 => ?_⟩) (fun p hp _ => hSw p hp) ?_
      rotate_left
      · simp [Reads] at hw0
        go_simp
        try with_reducible rfl
      try go_simp
      refine takeU (i := 5) (v := ?_) rfl (by kernel_rfl) (fun _ _ _ h => h) (Or.inl ⟨by rfl, fun w0 hw0 => ?_⟩) (fun p hp _ => hSw p hp) ?_
      rotate_left
      · simp [Reads] at hw0
        go_simp
        try with_reducible rfl
      try go_simp
      refine takeU (i := 6) (v := ?_) rfl (by kernel_rfl) (fun _ _ _ h => h) (Or.inl ⟨by rfl, fun w0 hw0 => ?_⟩) (fun p hp _ => hSw p hp) ?_
      rotate_left
      · simp [Reads] at hw0
        go_simp
        try with_reducible rfl
      try go_simp
      refine takeU (i := 7) (v := ?_) rfl (by kernel_rfl) (fun _ _ _ h => h) (Or.inl ⟨by rfl, fun w0 hw0 => ?_⟩) (fun p hp _ => hSw p hp) ?_
      rotate_left
      · simp [Reads] at hw0
        go_simp
        try with_reducible rfl
      try go_simp
      refine takeU (i := 8) (v := ?_) rfl (by kernel_rfl) (fun _ _ _ h => h) (Or.inl ⟨by rfl, fun w0 hw0 => ?_⟩) (fun p hp _ => hSw p hp) ?_
      rotate_left
      · simp [Reads] at hw0
        go_simp
        try with_reducible rfl
      try go_simp
      refine takeU (i := 9) (v := ?_) rfl (by kernel_rfl) (fun _ _ _ h => h) (Or.inl ⟨by rfl, fun w0 hw0 => ?_⟩) (fun p hp _ => hSw p hp) ?_
      rotate_left
      · simp [Reads] at hw0
        go_simp
        try with_reducible rfl
      try go_simp
      refine takeU (i := 10) (v := ?_) rfl (by kernel_rfl) (fun _ _ _ h => h) (Or.inl ⟨by rfl, fun w0 hw0 => ?_⟩) (fun p hp _ => hSw p hp) ?_
      rotate_left
      · simp [Reads] at hw0
        go_simp
        try with_reducible rfl
      try go_simp
      refine takeU (i := 11) (v := ?_) rfl (by kernel_rfl) (fun _ _ _ h => h) (Or.inl ⟨by rfl, fun w0 hw0 => ?_⟩) (fun p hp _ => hSw p hp) ?_
      rotate_left
      · simp [Reads] at hw0
        go_simp
        try with_reducible rfl
      try go_simp
      refine takeU (i := 12) (v := ?_) rfl (by kernel_rfl) (fun _ _ _ h => h) (Or.inl ⟨by rfl, fun w0 hw0 => ?_⟩) (fun p hp _ => hSw p hp) ?_
      rotate_left
      · simp [Reads] at hw0
        go_simp
        try with_reducible rfl
      try go_simp
      refine takeU (i := 13) (v := ?_) rfl (by kernel_rfl) (fun _ _ _ h => h) (Or.inl ⟨by rfl, fun w0 hw0 => ?_⟩) (fun p hp _ => hSw p hp) ?_
      rotate_left
      · simp [Reads] at hw0
        go_simp
        try with_reducible rfl
      try go_simp
      refine takeU (i := 14) (v := ?_) rfl (by kernel_rfl) (fun _ _ _ h => h) (Or.inl ⟨by rfl, fun w0 hw0 => ?_⟩) (fun p hp _ => hSw p hp) ?_
      rotate_left
      · simp [Reads] at hw0
        go_simp
        try with_reducible rfl
      try go_simp
      refine takeU (i := 15) (v := ?_) rfl (by kernel_rfl) (fun _ _ _ h => h) (Or.inl ⟨by rfl, fun w0 hw0 => ?_⟩) (fun p hp _ => hSw p hp) ?_
      rotate_left
      · simp [Reads] at hw0
        go_simp
        try with_reducible rfl
      try go_simp
      refine oneU (i := 16) rfl (by kernel_rfl) (fun K hK => ?_)
      go_simp
      refine hK _ _ ?_ ?_
      · intro p hp hw
        simp at hp
        rcases hp with rfl | rfl
        · change waitsB _ _ 16 5 = false at hw
          exact waits_absurd hw (by kernel_rfl)
        · intro h1
          go_simp
      clear hK K
      try go_simp
      clear hSw
      have hSw : ∀ p ∈ [((5 : Nat), fun w0 : World => w0.cell? ⟨r, 0, none⟩ = some (.slice ao s.l.length c)), (11, fun w0 : World => w0.cell? ⟨r, 1, none⟩ = some (.int .i64 s.n))], p.1 = 17 ∨ p.1 = 18 → ∀ w', p.2 w' := by
        intro p hp
        simp at hp
        rcases hp with rfl | rfl <;> simp
      refine takeU (i := 17) (v := ?_) rfl (by kernel_rfl) (fun _ _ _ h => h) (Or.inl ⟨by rfl, fun w0 hw0 => ?_⟩) (fun p hp h => hSw p hp (by rw [h]; simp) _) ?_
      rotate_left
      · simp [Reads] at hw0
        go_simp
        try with_reducible rfl
      try go_simp
      refine takeU (i := 18) (v := ?_) rfl (by kernel_rfl) (fun _ _ _ h => h) (Or.inl ⟨by rfl, fun w0 hw0 => ?_⟩) (fun p hp h => hSw p hp (by rw [h]; simp) _) ?_
      rotate_left
      · simp [Reads] at hw0
        go_simp
        try with_reducible rfl
      try go_simp
      refine oneU (i := 19) rfl (by kernel_rfl) (fun K hK => ?_)
      go_simp
      refine hK _ _ ?_ ?_
      · intro p hp hw
        simp at hp
        rcases hp with rfl | rfl
        · change waitsB _ _ 19 5 = false at hw
          exact waits_absurd hw (by kernel_rfl)
        · change waitsB _ _ 19 11 = false at hw
          exact waits_absurd hw (by kernel_rfl)
      clear hK K
      refine doneU (by kernel_rfl) ?_
      go_end0
      have hD := hS.drop hk
      simp only [Nat.mul_one] at hD
      have hks := ((Keeps.refl [r] w).set (p := ⟨r, 0, none⟩) (by simp) (.slice (if c = k then ao else Option.map (fun x => x.add k) ao) (s.l.length - k) (c - k))).drew.set (p := ⟨r, 1, none⟩) (by simp) (.int .i64 (s.n + k))
      have hB2 := (((hB.put 0 (.slice (if c = k then ao else Option.map (fun x => x.add k) ao) (s.l.length - k) (c - k))).drew.put 1 (.int .i64 (s.n + k))).eq (cs' := #[.slice (if c = k then ao else Option.map (fun x => x.add k) ao) (s.l.length - k) (c - k), .int .i64 (s.n + k), .nilIface]) (by simp))
      have hlen : (s.l.drop k).length = s.l.length - k := by simp
      have hap : ∀ ad, (if c = k then ao else Option.map (fun x => x.add k) ao) = some ad → bys (s.l.drop k) ≠ [] → ad.block ≠ r ∧ ad.block < N := by
        intro ad e hx
        have hx0 := bys_ne_drop hx
        split at e
        · exact hn0 ad e hx0
        · cases ao with
          | none => simp at e
          | some a0 =>
            simp only [Option.map_some, Option.some.injEq] at e
            subst e
            have h0 := hn0 a0 rfl hx0
            rw [addr_add (hS.spot (by have := hS.cap; omega) a0 rfl)]
            exact h0
      have hbd : (bys s.l).drop k = bys (s.l.drop k) := by unfold bys; rw [List.map_drop]
      rw [hbd, ← hlen] at hD
      rw [← hlen] at hB2 hks ⊢
      exact ⟨rfl, ⟨_, _, .nilIface, hB2.eq (by simp), hD.keep hks (fun ad e hx => by simpa using (hap ad e hx).1), .inl ⟨rfl, rfl⟩, hap, by simp only [List.length_drop]; omega⟩, hks⟩
    · have hst : s.take k 0 = s := by unfold St.take St.fail; rw [if_neg (by simp [h0]), if_neg h0]
      rw [hst]
      go_enter Tryz.func91, Tryz.ntmps91
      go_wp2_with fail
      go_end0
      exact ⟨rfl, ⟨ao, c, _, hB, hS, .inr ⟨h0, g, p, rfl, hG⟩, hn0, hm⟩, Keeps.refl _ _⟩
  · have hst : s.take k f = s.fail f := by unfold St.take; rw [if_neg (by simp [hf])]
    rw [hst]
    have hE2 := hE
    rcases hE2 with ⟨_, h1⟩ | ⟨_, ge, pe, rfl, hGe⟩
    · exact absurd h1 hf
    clear hGe
    go_enter Tryz.func91, Tryz.ntmps91
    go_wp2_with fail
    refine (rd_fails r s _ f w h hE hf).mono ?_
    rintro e w1 ⟨rfl, h1, hk1⟩
    have h1' := h1
    obtain ⟨ao, c, ev0, hB, hS, hE0, hn0, hm⟩ := h1
    have hc := hB.cell
    have hl := hB.lt
    have hs0 : (s.fail f).f ≠ 0 := by unfold St.fail; split <;> simp_all
    rcases hE0 with ⟨_, h0⟩ | ⟨h0, g, p, rfl, hG⟩
    · exact absurd h0 hs0
    go_wp2_with fail
    go_end0
    exact ⟨rfl, h1', hk1⟩

/-- a reader stays where another new block turns -/
theorem RdAt.keepV {N : Nat} {w w' : World} {r v : Nat} {s : St} {t : TypeId} {cs : Array Value} (h : RdAt N w r s) (hV : Blk w v t cs) (hk : Keeps [v] w w') (hr : r ≠ v) (hv : N ≤ v) (ht : 97 ≠ t) : RdAt N w' r s := by
  obtain ⟨ao, c, ev, hB, hS, hE, hn, hm⟩ := h
  exact ⟨ao, c, ev, hB.keep hk (by simpa using hr), hS.keep hk (fun ad e hx => by have := (hn ad e hx).2; simp; omega), hE.keepR hV ht hk, hn, hm⟩

/-- a reader, by whether it has a fault -/
theorem RdAt.open {N : Nat} {w : World} {r : Nat} {s : St} (h : RdAt N w r s) : ∃ ao c, Rb w ao c s.l ∧ (∀ ad, ao = some ad → bys s.l ≠ [] → ad.block ≠ r ∧ ad.block < N) ∧ s.n + s.l.length ≤ 4611686018427387904 ∧
    ((s.f = 0 ∧ Blk w r 151 #[.slice ao s.l.length c, .int .i64 s.n, .nilIface]) ∨ (s.f ≠ 0 ∧ ∃ g p, Blk w r 151 #[.slice ao s.l.length c, .int .i64 s.n, .iface 95 (.pointer (some ⟨g, 0, none⟩))] ∧ Blk w g 97 #[.string p, .iface 75 (.int .i64 s.f)])) := by
  obtain ⟨ao, c, ev, hB, hS, hE, hn, hm⟩ := h
  refine ⟨ao, c, hS, hn, hm, ?_⟩
  rcases hE with ⟨rfl, h0⟩ | ⟨h0, g, p, rfl, hG⟩
  · exact .inl ⟨h0, hB⟩
  · exact .inr ⟨h0, g, p, hB, hG⟩

def St.byte (s : St) : Nat × St := match s.l with
  | [] => (0, s.fail 22)
  | b :: _ => if s.f = 0 then (b.toNat, s.take 1 0) else (0, s)
theorem fail_f (s : St) {c : Nat} (h : c ≠ 0) : (s.fail c).f ≠ 0 := by unfold St.fail; split <;> simp_all
theorem fail_l (s : St) (c : Nat) : (s.fail c).l = s.l := by unfold St.fail; split <;> rfl
theorem fail_n (s : St) (c : Nat) : (s.fail c).n = s.n := by unfold St.fail; split <;> rfl

set_option maxRecDepth 100000 in
set_option maxHeartbeats 1000000 in
theorem rd_byte {N : Nat} (r : Nat) (s : St) (w : World) (h : RdAt N w r s) :
    Calls Tryz.prog 93 #[.pointer (some ⟨r, 0, none⟩)] w fun e w' => e = .returned (.int .u8 s.byte.1) ∧ RdAt N w' r s.byte.2 ∧ Keeps [r] w w' := by
  obtain ⟨ao, c, hS, hn, hm, hc⟩ := h.open
  cases hl : s.l with
  | nil =>
    have hst : s.byte = (0, s.fail 22) := by unfold St.byte; rw [hl]
    rw [hst]
    have hc0 : w.cell? ⟨r, 0, none⟩ = some (.slice ao 0 c) := by
      rcases hc with ⟨_, hB⟩ | ⟨_, g, p, hB, _⟩ <;> (rw [hB.cell]; simp [hl])
    have hlr : r < w.heap.size := by rcases hc with ⟨_, hB⟩ | ⟨_, g, p, hB, _⟩ <;> exact hB.lt
    go_enter Tryz.func93, Tryz.ntmps93
    go_wp2_with fail
    refine (wshort _ w).mono ?_
    rintro e w1 ⟨g, rfl, hE, hk1⟩
    go_wp2_with fail
    refine (rd_fails r s _ 22 w1 (h.keep hk1) (ErrF.of hE (by simp)) (by decide)).mono ?_
    rintro e w2 ⟨rfl, h2, hk2⟩
    obtain ⟨ao2, c2, hS2, hn2, hm2, hc2⟩ := h2.open
    rcases hc2 with ⟨h0, _⟩ | ⟨_, g2, p2, hB2, _⟩
    · exact absurd h0 (fail_f s (by decide))
    have hcc := hB2.cell
    have hll := hB2.lt
    go_wp2_with fail
    go_ret
    exact ⟨rfl, h2, hk1.of_nil.trans hk2⟩
  | cons b l =>
    have hst : s.byte = if s.f = 0 then (b.toNat, s.take 1 0) else (0, s) := by unfold St.byte; rw [hl]
    rw [hst]
    have hpos : 0 < s.l.length := by rw [hl]; simp
    have hne : ¬ (s.l.length = 0) := by omega
    rcases hc with ⟨h0, hB⟩ | ⟨h0, g, p, hB, hG⟩
    · rw [if_pos h0]
      obtain ⟨bb, o, rfl⟩ := hS.at (by have := hS.cap; omega)
      have hcell := hS.cell _ rfl 0 _ (bys_at hpos)
      have hb0 : s.l[0] = b := by simp [hl]
      rw [hb0] at hcell
      simp only [Nat.add_zero] at hcell
      have hcc := hB.cell
      have hll := hB.lt
      go_enter Tryz.func93, Tryz.ntmps93
      go_wp2_with fail
      refine (rd_takes r s 1 .nilIface 0 w h (.inl ⟨rfl, rfl⟩) hpos).mono ?_
      rintro e w2 ⟨rfl, h2, hk2⟩
      go_wp2_with fail
      go_ret
      exact ⟨rfl, h2, hk2⟩
    · rw [if_neg h0]
      have hcc := hB.cell
      have hll := hB.lt
      go_enter Tryz.func93, Tryz.ntmps93
      go_wp2_with fail
      go_ret
      exact ⟨rfl, h, Keeps.refl _ _⟩
end Go.Proofs.YtfgmbjdeimallaaGreatDoor
/- A reader of bytes: small, uint, int, count, bytes. Int and Text. -/

namespace Go.Proofs.YtfgmbjdeimallaaGreatDoor
open Go.RowKit Go.Lib

theorem rdU_bounds : ∀ (l : List UInt8) (k acc : Nat), acc < 2 ^ (7 * k) → k ≤ 10 → (rdU k acc l).1 < 18446744073709551616 ∧ (rdU k acc l).2.1 ≤ k + l.length
  | [], k, acc, _, _ => by simp [rdU]
  | b :: l, k, acc, ha, hk => by
    rw [rdU]
    split
    · simp
    · rename_i h
      split
      · rename_i h2
        have hl := shl_lt k b.toNat (by omega)
        have h1 : 2 ^ (7 * k) ≤ 2 ^ 63 := Nat.pow_le_pow_right (by decide) (by omega)
        refine ⟨?_, by simp⟩
        simp only []
        by_cases h9 : k = 9
        · subst h9
          have : b.toNat ≤ 1 := by omega
          have hb : b.toNat * 2 ^ (7 * 9) ≤ 1 * 2 ^ (7 * 9) := Nat.mul_le_mul_right _ this
          omega
        · have h3 : 2 ^ (7 * k) ≤ 2 ^ 56 := Nat.pow_le_pow_right (by decide) (by omega)
          have hb : b.toNat * 2 ^ (7 * k) ≤ 127 * 2 ^ 56 := Nat.mul_le_mul (by omega) h3
          omega
      · have hb := b.toNat_lt
        have := rdU_bounds l (k + 1) (acc + (b.toNat - 128) * 2 ^ (7 * k)) (acc_lt k acc _ ha (by omega)) (by omega)
        simp only [List.length_cons]
        omega
theorem rdU_lt (l : List UInt8) : (rdU 0 0 l).1 < 18446744073709551616 := (rdU_bounds l 0 0 (by decide) (by omega)).1
theorem rdU_size (l : List UInt8) : (rdU 0 0 l).2.1 ≤ l.length := by have := (rdU_bounds l 0 0 (by decide) (by omega)).2; omega
theorem rdU_err : ∀ (l : List UInt8) (k acc : Nat), (rdU k acc l).2.2 ≠ 0 → (rdU k acc l).1 = 0 ∧ (rdU k acc l).2.1 = 0
  | [], k, acc => by simp [rdU]
  | b :: l, k, acc => by
    rw [rdU]
    split
    · simp
    · split
      · simp
      · exact rdU_err l _ _

def St.small (s : St) (m : Nat) : Nat × St := match s.l with
  | [] => s.byte
  | b :: _ => if m < b.toNat then (s.fail 20).byte else s.byte

set_option maxRecDepth 100000 in
set_option maxHeartbeats 1000000 in
theorem rd_small {N : Nat} (r : Nat) (s : St) (m : Nat) (w : World) (h : RdAt N w r s) :
    Calls Tryz.prog 85 #[.pointer (some ⟨r, 0, none⟩), .int .u8 m] w fun e w' => e = .returned (.int .i64 (s.small m).1) ∧ RdAt N w' r (s.small m).2 ∧ Keeps [r] w w' := by
  have hbl : ∀ t : St, IntKind.i64.wrap (t.byte.1 : Int) = t.byte.1 := by
    intro t
    refine IntWalk.i64_in _ ?_
    unfold St.byte
    split
    · simp
    · rename_i b _ _
      have := b.toNat_lt
      split <;> simp only [] <;> omega
  have HB := Lib.hid hbl
  clear hbl
  obtain ⟨ao, c, hS, hn, hm, hc⟩ := h.open
  have hc0 : w.cell? ⟨r, 0, none⟩ = some (.slice ao s.l.length c) := by
    rcases hc with ⟨_, hB⟩ | ⟨_, g, p, hB, _⟩ <;> (rw [hB.cell]; rfl)
  have hlr : r < w.heap.size := by rcases hc with ⟨_, hB⟩ | ⟨_, g, p, hB, _⟩ <;> exact hB.lt
  clear hc
  cases hl : s.l with
  | nil =>
    have hst : s.small m = s.byte := by unfold St.small; rw [hl]
    rw [hst]
    rw [hl] at hc0
    simp only [List.length_nil] at hc0
    have q := HB.out s
    go_enter Tryz.func85, Tryz.ntmps85
    go_wp2_with fail
    refine (rd_byte r s w h).mono ?_
    rintro e w1 ⟨rfl, h1, hk1⟩
    go_wp2_with fail
    go_ret
    exact ⟨rfl, h1, hk1⟩
  | cons b l =>
    have hst : s.small m = if m < b.toNat then (s.fail 20).byte else s.byte := by unfold St.small; rw [hl]
    rw [hst]
    have hpos : 0 < s.l.length := by rw [hl]; simp
    obtain ⟨bb, o, rfl⟩ := hS.at (by have := hS.cap; omega)
    have hcell := hS.cell _ rfl 0 _ (bys_at hpos)
    have hb0 : s.l[0] = b := by simp [hl]
    rw [hb0] at hcell
    simp only [Nat.add_zero] at hcell
    by_cases hmb : m < b.toNat
    · rw [if_pos hmb]
      have q := HB.out (s.fail 20)
      have n1 : (m : Int) < (b.toNat : Int) := by omega
      go_enter Tryz.func85, Tryz.ntmps85
      go_wp2_with fail
      refine (wform _ w).mono ?_
      rintro e w1 ⟨g, rfl, hE, hk1⟩
      go_wp2_with fail
      refine (rd_fails r s _ 20 w1 (h.keep hk1) (ErrF.of hE (by simp)) (by decide)).mono ?_
      rintro e w2 ⟨rfl, h2, hk2⟩
      go_wp2_with fail
      refine (rd_byte r _ w2 h2).mono ?_
      rintro e w3 ⟨rfl, h3, hk3⟩
      go_wp2_with fail
      go_ret
      exact ⟨rfl, h3, (hk1.of_nil.trans hk2).trans hk3⟩
    · rw [if_neg hmb]
      have q := HB.out s
      have n1 : ¬ ((m : Int) < (b.toNat : Int)) := by omega
      go_enter Tryz.func85, Tryz.ntmps85
      go_wp2_with fail
      refine (rd_byte r s w h).mono ?_
      rintro e w1 ⟨rfl, h1, hk1⟩
      go_wp2_with fail
      go_ret
      exact ⟨rfl, h1, hk1⟩

def St.uint (s : St) : Nat × St := if s.f = 0 ∧ (rdU 0 0 s.l).2.2 = 0 then ((rdU 0 0 s.l).1, s.take (rdU 0 0 s.l).2.1 0) else (0, s.fail (rdU 0 0 s.l).2.2)

set_option maxRecDepth 100000 in
set_option maxHeartbeats 1000000 in
theorem rd_uint {N : Nat} (r : Nat) (s : St) (w : World) (h : RdAt N w r s) :
    Calls Tryz.prog 84 #[.pointer (some ⟨r, 0, none⟩)] w fun e w' => e = .returned (.int .u64 s.uint.1) ∧ RdAt N w' r s.uint.2 ∧ Keeps [r] w w' := by
  obtain ⟨ao, c, hS, hn, hm, hc⟩ := h.open
  have hc0 : w.cell? ⟨r, 0, none⟩ = some (.slice ao s.l.length c) := by
    rcases hc with ⟨_, hB⟩ | ⟨_, g, p, hB, _⟩ <;> (rw [hB.cell]; rfl)
  have hlr : r < w.heap.size := by rcases hc with ⟨_, hB⟩ | ⟨_, g, p, hB, _⟩ <;> exact hB.lt
  clear hc
  have hsz := rdU_size s.l
  have hst : s.uint = (if s.f = 0 ∧ (rdU 0 0 s.l).2.2 = 0 then (rdU 0 0 s.l).1 else 0, s.take (rdU 0 0 s.l).2.1 (rdU 0 0 s.l).2.2) := by
    unfold St.uint
    split
    · rename_i h0
      rw [h0.2]
    · rename_i h0
      rw [show s.take (rdU 0 0 s.l).2.1 (rdU 0 0 s.l).2.2 = s.fail (rdU 0 0 s.l).2.2 by unfold St.take; rw [if_neg h0]]
  rw [hst]
  have U := uint_any ao c s.l w hS
  clear hst
  generalize (rdU 0 0 s.l).1 = u at *
  generalize (rdU 0 0 s.l).2.1 = z at *
  generalize (rdU 0 0 s.l).2.2 = f at *
  obtain ⟨x, hx⟩ : ∃ x, x = (if s.f = 0 ∧ f = 0 then u else 0) := ⟨_, rfl⟩
  rw [← hx]
  go_enter Tryz.func84, Tryz.ntmps84
  go_wp2_with fail
  refine U.mono ?_
  rintro e w1 ⟨ev, rfl, hE, hE0, hk1⟩
  clear U
  go_wp2_with fail
  refine (rd_takes r s z ev f w1 (h.keep hk1) (ErrF.of hE hE0) hsz).mono ?_
  rintro e w2 ⟨rfl, h2, hk2⟩
  obtain ⟨ao2, c2, hS2, hn2, hm2, hc2⟩ := h2.open
  have hk02 := hk1.of_nil.trans hk2
  rcases hc2 with ⟨h0, hB2⟩ | ⟨h0, g2, p2, hB2, _⟩
  · have hh : s.f = 0 ∧ f = 0 := by
      unfold St.take at h0
      split at h0
      · assumption
      · rename_i hh
        unfold St.fail at h0
        split at h0 <;> simp_all
    have hx' := Lib.hid (show x = u by rw [hx, if_pos hh])
    clear hh hx
    have hcc := hB2.cell
    have hll := hB2.lt
    go_wp2_with fail
    go_ret
    exact ⟨by rw [hx'.out]; rfl, h2, hk02⟩
  · have hh : ¬ (s.f = 0 ∧ f = 0) := by
      intro hh
      unfold St.take at h0
      rw [if_pos hh] at h0
      exact h0 rfl
    have hx' := Lib.hid (show x = 0 by rw [hx, if_neg hh])
    clear hh hx
    have hcc := hB2.cell
    have hll := hB2.lt
    go_wp2_with fail
    go_ret
    exact ⟨by rw [hx'.out]; rfl, h2, hk02⟩

/-- an integer, of its number -/
def unzig (n : Nat) : Int := if n % 2 = 0 then ((n / 2 : Nat) : Int) else -((n / 2 : Nat) : Int) - 1
theorem unzig_zigzag (k : Int) : unzig (zigzag k) = k := by
  unfold unzig zigzag
  split <;> split <;> omega

theorem intFacts (u : Nat) (h : u < 18446744073709551616) : ∃ m y : Int, bits .and .u64 (u : Int) 1 = m ∧ IntKind.i64.wrap ((u : Int) / 2) = ((u / 2 : Nat) : Int) ∧ IntKind.i64.wrap m = m ∧ IntKind.i64.wrap (-m) = y ∧ bits .xor .i64 ((u / 2 : Nat) : Int) y = unzig u := by
  have e1 : bits .and .u64 (u : Int) 1 = (u : Int) % 2 := u64_and1 _ (by omega) (by omega)
  refine ⟨(u : Int) % 2, -((u : Int) % 2), e1, ?_, IntWalk.i64_in _ (by omega), IntWalk.i64_in _ (by omega), ?_⟩
  · rw [IntWalk.i64_in _ (by omega)]; omega
  · unfold unzig
    have ex : ∀ x : Nat, x < 9223372036854775808 → bits .xor .i64 (x : Int) (-1) = -(x : Int) - 1 := by
      intro x hx
      rw [← i64_not x hx]
      show IntKind.i64.wrap ((BitVec.ofInt 64 (x : Int) ^^^ BitVec.ofInt 64 (-1)).toNat : Int) = IntKind.i64.wrap ((BitVec.ofInt 64 (-1) ^^^ BitVec.ofInt 64 (x : Int)).toNat : Int)
      rw [BitVec.xor_comm]
    have ez : ∀ x : Nat, x < 9223372036854775808 → bits .xor .i64 (x : Int) 0 = (x : Int) := by
      intro x hx
      show IntKind.i64.wrap ((BitVec.ofInt 64 (x : Int) ^^^ BitVec.ofInt 64 0).toNat : Int) = _
      have h0 : BitVec.ofInt 64 0 = 0#64 := by decide
      have h2 : (BitVec.ofInt 64 (x : Int)).toNat = x := by
        rw [BitVec.ofInt_natCast, BitVec.toNat_ofNat]; exact Nat.mod_eq_of_lt (by omega)
      rw [h0, BitVec.xor_zero, h2]
      exact IntWalk.i64_in _ (by omega)
    split
    · rw [show -((u : Int) % 2) = 0 by omega]; exact ez _ (by omega)
    · rw [show -((u : Int) % 2) = -1 by omega]; exact ex _ (by omega)

end Go.Proofs.YtfgmbjdeimallaaGreatDoor
