/- A reader of bytes: int, bytes, value, row. Row. -/
import Derived.Test.YtfgmbjdeimallaaGreatDoorWpZ
import Derived.Test.YtfgmbjdeimallaaGreatDoorLawZ
import Derived.StillTailTactics
import Derived.Deep.DeepCutAuto
import Derived.Deep.CutBlock

namespace Go.Proofs.YtfgmbjdeimallaaGreatDoor
open Go.RowKit Go.Lib

def St.int (s : St) : Int × St := if s.f = 0 ∧ (rdU 0 0 s.l).2.2 = 0 then (unzig (rdU 0 0 s.l).1, s.take (rdU 0 0 s.l).2.1 0) else (0, s.fail (rdU 0 0 s.l).2.2)

def St.bytes (s : St) (n : Nat) : List UInt8 × St := if s.l.length < n then ([], s.fail 22) else if s.f = 0 then (s.l.take n, s.take n 0) else ([], s)

set_option maxRecDepth 100000 in
set_option maxHeartbeats 1000000 in
theorem rd_bytes {N : Nat} (r : Nat) (s : St) (n : Nat) (w : World) (h : RdAt N w r s) :
    Calls Tryz.prog 94 #[.pointer (some ⟨r, 0, none⟩), .int .i64 n] w fun e w' => ∃ ao c, e = .returned (.slice ao (s.bytes n).1.length c) ∧ Rb w' ao c (s.bytes n).1 ∧ RdAt N w' r (s.bytes n).2 ∧ Keeps [r] w w' := by
  obtain ⟨ao, c, hS, hn, hm, hc⟩ := h.open
  have hc0 : w.cell? ⟨r, 0, none⟩ = some (.slice ao s.l.length c) := by
    rcases hc with ⟨_, hB⟩ | ⟨_, g, p, hB, _⟩ <;> (rw [hB.cell]; rfl)
  have hlr : r < w.heap.size := by rcases hc with ⟨_, hB⟩ | ⟨_, g, p, hB, _⟩ <;> exact hB.lt
  by_cases hlt : s.l.length < n
  · have hst : s.bytes n = ([], s.fail 22) := by unfold St.bytes; rw [if_pos hlt]
    rw [hst]
    clear hc
    have n1 : (s.l.length : Int) < (n : Int) := by omega
    go_enter Tryz.func94, Tryz.ntmps94
    go_wp2_with fail
    refine (wshort _ w).mono ?_
    rintro e w1 ⟨g, rfl, hE, hk1⟩
    go_wp2_with fail
    refine (rd_fails r s _ 22 w1 (h.keep hk1) (ErrF.of hE (by simp)) (by decide)).mono ?_
    rintro e w2 ⟨rfl, h2, hk2⟩
    obtain ⟨ao2, c2, hS2, hn2, hm2, hc2⟩ := h2.open
    rcases hc2 with ⟨h0, _⟩ | ⟨_, g2, p2, hB2, _⟩
    · exact absurd h0 (fail_f s (by decide))
    have hcc := hB2.cell
    have hll := hB2.lt
    go_wp2_with fail
    go_ret
    exact ⟨none, 0, rfl, Sl.none _ _, h2, hk1.of_nil.trans hk2⟩
  · have n1 : ¬ ((s.l.length : Int) < (n : Int)) := by omega
    rcases hc with ⟨h0, hB⟩ | ⟨h0, g, p, hB, _⟩
    · have hst : s.bytes n = (s.l.take n, s.take n 0) := by unfold St.bytes; rw [if_neg hlt, if_pos h0]
      rw [hst]
      have hcc := hB.cell
      have n2 : n ≤ s.l.length := by omega
      have n3 : n ≤ c := by have := hS.cap; omega
      have hT := hS.take (k := n) (c' := n) n2 (Nat.le_refl _) n3
      have hbt : (bys s.l).take (n * 1) = bys (s.l.take n) := by unfold bys; rw [Nat.mul_one, List.map_take]
      have hln : (s.l.take n).length = n := by simp; omega
      go_enter Tryz.func94, Tryz.ntmps94
      go_wp2_with fail
      refine (rd_takes r s n .nilIface 0 w h (.inl ⟨rfl, rfl⟩) n2).mono ?_
      rintro e w2 ⟨rfl, h2, hk2⟩
      go_wp2_with fail
      go_ret
      refine ⟨ao, n, by rw [hln]; rfl, ?_, h2, hk2⟩
      rw [hbt, ← hln] at hT
      have := hT.keep hk2 (fun ad e hx => by simpa using (hn ad e (bys_ne_take hx)).1)
      rw [hln] at this
      unfold Rb
      rw [hln]
      exact this
    · have hst : s.bytes n = ([], s) := by unfold St.bytes; rw [if_neg hlt, if_neg h0]
      rw [hst]
      have hcc := hB.cell
      go_enter Tryz.func94, Tryz.ntmps94
      go_wp2_with fail
      go_ret
      exact ⟨none, 0, rfl, Sl.none _ _, h, Keeps.refl _ _⟩

end Go.Proofs.YtfgmbjdeimallaaGreatDoor
/- A reader of bytes: value. -/

namespace Go.Proofs.YtfgmbjdeimallaaGreatDoor
open Go.RowKit Go.Lib

/-- a value -/
structure Va where
  kind : Int
  int : Int
  text : ByteArray
abbrev Va.cells (v : Va) : Array Value := #[.int .i64 v.kind, .int .i64 v.int, .string v.text]

def St.value (s : St) : Va × St :=
  if (s.small 3).1 = 1 then (⟨1, ((s.small 3).2.small 1).1, ⟨#[]⟩⟩, ((s.small 3).2.small 1).2) else
  if (s.small 3).1 = 2 then (⟨2, (s.small 3).2.int.1, ⟨#[]⟩⟩, (s.small 3).2.int.2) else
  if (s.small 3).1 = 3 then
    let t := (s.small 3).2.small 40
    let u := if t.2.f = 0 ∧ 0 ∈ t.2.l.take t.1 then t.2.fail 20 else t.2
    (⟨3, 0, ⟨(u.bytes t.1).1.toArray⟩⟩, (u.bytes t.1).2)
  else (⟨(s.small 3).1, 0, ⟨#[]⟩⟩, (s.small 3).2)

theorem RdAt.set1 {N : Nat} {w : World} {r v : Nat} {s : St} {t : TypeId} {cs : Array Value} (h : RdAt N w r s) (hV : Blk w v t cs) (hr : r ≠ v) (hv : N ≤ v) (ht : 97 ≠ t) (i : Nat) (x : Value) : RdAt N (w.setCell ⟨v, i, none⟩ x) r s :=
  h.keepV hV ((Keeps.refl [v] w).set (by simp) x) hr hv ht

end Go.Proofs.YtfgmbjdeimallaaGreatDoor
/- A reader of bytes: row. Row. -/

namespace Go.Proofs.YtfgmbjdeimallaaGreatDoor
open Go.RowKit Go.Lib

/-- values, as cells -/
def vals (l : List Va) : List Value := (l.map fun v => v.cells.toList).flatten
theorem vals_nil : vals [] = [] := rfl
theorem vals_cons (v : Va) (l : List Va) : vals (v :: l) = v.cells.toList ++ vals l := rfl
theorem vals_append (l m : List Va) : vals (l ++ m) = vals l ++ vals m := by simp [vals]
theorem vals_length (l : List Va) : (vals l).length = l.length * 3 := by
  induction l with
  | nil => rfl
  | cons v l ih => rw [vals_cons, List.length_append, ih]; simp; omega
theorem vals_one (l : List Va) : ∀ u ∈ vals l, u.oneCell' = true := by
  intro u hu
  simp only [vals, List.mem_flatten, List.mem_map] at hu
  obtain ⟨_, ⟨v, _, rfl⟩, hu⟩ := hu
  simp at hu
  rcases hu with rfl | rfl | rfl <;> rfl

theorem ownsRow_keep {w w' : World} {N sz n c : Nat} {e : TypeId} {ao : Option Addr} {xs : List Value} {L : List Nat} (h : w.ownsRow N e sz (.slice ao n c) n xs) (hk : Keeps L w w') (hL : ∀ x ∈ blks ao, x ∉ L) : w'.ownsRow N e sz (.slice ao n c) n xs := by
  refine ⟨h.1, ?_⟩
  rcases h.2 with h0 | ⟨g, cap, cur, he, hb, hg, rest⟩
  · exact .inl h0
  · simp only [Value.slice.injEq] at he
    obtain ⟨rfl, _, rfl⟩ := he
    exact .inr ⟨g, c, cur, rfl, hb, (hk.block g (Array.getElem?_eq_some_iff.1 hg).1 (hL g (by simp))).trans hg, rest⟩
theorem ownsRow_lt {w : World} {N sz n c : Nat} {e : TypeId} {ao : Option Addr} {xs : List Value} (h : w.ownsRow N e sz (.slice ao n c) n xs) : ∀ x ∈ blks ao, N ≤ x ∧ x < w.heap.size := by
  intro x hx
  cases ao with
  | none => simp at hx
  | some ad =>
    simp only [blks, List.mem_singleton] at hx
    subst hx
    exact World.ownsRow.lt h _ rfl
/-- what is owned is another block than one of another type -/
theorem ownsRow_ne {w : World} {N sz n c b : Nat} {e t : TypeId} {ao : Option Addr} {xs : List Value} {cs : Array Value} (h : w.ownsRow N e sz (.slice ao n c) n xs) (hB : Blk w b t cs) (ht : e ≠ t) : ∀ x ∈ blks ao, x ≠ b := by
  intro x hx
  rcases h.2 with ⟨h0, _⟩ | ⟨g, cap, cur, he, hb, hg, rest⟩
  · simp only [Value.slice.injEq] at h0
    obtain ⟨rfl, _, _⟩ := h0
    simp at hx
  · simp only [Value.slice.injEq] at he
    obtain ⟨rfl, _, rfl⟩ := he
    simp at hx
    subst hx
    rintro rfl
    unfold Blk at hB
    rw [hg] at hB
    simp only [Option.some.injEq, Obj.cells.injEq] at hB
    exact ht hB.2.1

theorem RdAt.keepL {N : Nat} {w w' : World} {r : Nat} {s : St} {L : List Nat} (h : RdAt N w r s) (hk : Keeps L w w') (h1 : r ∉ L) (h2 : ∀ x ∈ L, N ≤ x) (h3 : ∀ g cs, Blk w g 97 cs → g ∉ L) : RdAt N w' r s := by
  obtain ⟨ao, c, ev, hB, hS, hE, hn, hm⟩ := h
  refine ⟨ao, c, ev, hB.keep hk h1, hS.keep hk (fun ad e hne hx => by have := (hn ad e hne).2; have := h2 _ hx; omega), ?_, hn, hm⟩
  rcases hE with h | ⟨h0, g, p, e1, e2⟩
  · exact .inl h
  · exact .inr ⟨h0, g, p, e1, e2.keep hk (h3 g _ e2)⟩

/-- values that may be read -/
abbrev Rv (w : World) (ao : Option Addr) (c : Nat) (l : List Va) : Prop := Sl w 3 ao l.length c (vals l)
def St.values : Nat → St → List Va × St
  | 0, s => ([], s)
  | n + 1, s => (s.value.1 :: (St.values n s.value.2).1, (St.values n s.value.2).2)
def St.row (s : St) : List Va × St := (s.small 64).2.values (s.small 64).1

theorem small_le (s : St) (m : Nat) : (s.small m).1 ≤ 255 ∧ (s.f = 0 → (s.small m).1 ≤ m) := by
  have hb : ∀ t : St, t.byte.1 ≤ 255 := by
    intro t
    unfold St.byte
    split
    · simp
    · rename_i b _ _
      have := b.toNat_lt
      split <;> simp only [] <;> omega
  refine ⟨?_, ?_⟩
  · unfold St.small
    split
    · exact hb _
    · split <;> exact hb _
  · intro hf
    unfold St.small
    cases hl : s.l with
    | nil => simp [St.byte, hl]
    | cons b l =>
      simp only []
      split
      · have h20 : (s.fail 20).f ≠ 0 := fail_f s (by decide)
        unfold St.byte
        rw [fail_l, hl]
        simp only []
        rw [if_neg h20]
        simp
      · unfold St.byte
        rw [hl]
        simp only []
        rw [if_pos hf]
        simp only []
        omega

/-- what Row tells -/
def rowP (l : List UInt8) : List Va × Nat × Nat :=
  let x := (⟨l, 0, 0⟩ : St).row
  if x.2.f = 0 then (x.1, x.2.n, 0) else ([], 0, x.2.f)

end Go.Proofs.YtfgmbjdeimallaaGreatDoor
