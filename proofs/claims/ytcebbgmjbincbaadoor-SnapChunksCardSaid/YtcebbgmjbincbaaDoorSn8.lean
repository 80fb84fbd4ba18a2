/- Spoil; snapshots held against each other; a snapshot law's steps. -/
import Derived.Test.YtcebbgmjbincbaaDoorSn7
import Derived.Test.YtcebbgmjbincbaaDoorDlR

namespace Go.Proofs.YtcebbgmjbincbaaDoor
open Go.RowKit Go.Lib

set_option maxRecDepth 100000 in
theorem spoil_own {w : World} (ao : Option Addr) (c : Nat) (l : List UInt8) (h : OwnG w ao c l) (hl : l.length ≤ 1000000) :
    Calls Tryd.prog 22 #[.slice ao l.length c] w fun e w' => e = .returned (.tuple #[]) ∧ Keeps (blks ao) w w' := by
  rcases h with ⟨rfl, rfl, rfl⟩ | ⟨g, cur, rfl, hg, h1, h2, h3, h4⟩
  · go_enter Tryd.func22, Tryd.ntmps22
    go_wp2_with fail
    go_loopw [2] (fun v wr => v = .int .i64 0 ∧ wr = w) (fun _ _ => 0)
    case atStart => exact ⟨rfl, rfl⟩
    case round =>
      obtain ⟨rfl, rfl⟩ := hrel
      go_wp2_with fail
      go_end0
      exact ⟨rfl, Keeps.refl _ _⟩
  · have hB : Blk w g 5 cur := hg
    clear hg h4
    go_enter Tryd.func22, Tryd.ntmps22
    go_wp2_with fail
    go_loopw [2] (fun v wr => ∃ (i : Nat) (cur' : Array Value), v = .int .i64 (i : Int) ∧ i ≤ l.length ∧ Blk wr g 5 cur' ∧ cur'.size = cur.size ∧ Keeps [g] w wr) (fun v _ => l.length - (intOf v).toNat)
    case atStart => exact ⟨0, cur, rfl, Nat.zero_le _, hB, rfl, Keeps.refl _ _⟩
    case round =>
      obtain ⟨i, cur', rfl, hi, hB', hcs', hkr⟩ := hrel
      rcases (by omega : i = l.length ∨ i < l.length) with hie | hil
      · have n1 : ¬ ((i : Int) < (l.length : Int)) := by omega
        go_wp2_with fail
        go_end0
        exact ⟨rfl, hkr.mono (fun x hx => by simpa using hx)⟩
      · have n1 : (i : Int) < (l.length : Int) := by omega
        have n2 : (0 : Int) ≤ (i : Int) := by omega
        have q1 : IntKind.i64.wrap ((i : Int) + 1) = i + 1 := IntWalk.i64_in _ (by omega)
        have hfr := hB'.free i
        have hlt := hB'.lt
        obtain ⟨old, hold⟩ : ∃ old, cur'[i]? = some old := ⟨_, Array.getElem?_eq_getElem (by omega)⟩
        have hc0 : wr.cell? ⟨g, i, none⟩ = some old := by rw [hB'.cell]; exact hold
        go_wp2_with fail
        go_roundw
        case rel => exact ⟨i + 1, _, by simp, by omega, hB'.put i (.int .u8 238), by simpa using hcs', hkr.set (p := ⟨g, i, none⟩) (.inl (by simp)) _⟩
        case measure => simp [intOf]; omega

/-- a snapshot as plain data -/
structure Sn where
  ix : Nat
  tm : Nat
  l : List UInt8
  deriving DecidableEq
def Sn.cells (s : Sn) (ao : Option Addr) (c : Nat) : Array Value := #[.int .u64 (s.ix : Nat), .int .u64 (s.tm : Nat), .slice ao s.l.length c]
set_option maxRecDepth 100000 in
set_option maxHeartbeats 4000000 in
theorem same_any (s t : Sn) (ao bo : Option Addr) (c d : Nat) (w : World) (h : Rb w ao c s.l) (h' : Rb w bo d t.l) :
    Calls Tryd.prog 42 #[.agg (s.cells ao c), .agg (t.cells bo d)] w fun e w' => e = .returned (.bool (decide (s = t))) ∧ Keeps [] w w' := by
  obtain ⟨i1, t1, l1⟩ := s
  obtain ⟨i2, t2, l2⟩ := t
  simp only [Sn.cells] at *
  obtain ⟨q, hq⟩ : ∃ q : Bool, q = decide ((⟨i1, t1, l1⟩ : Sn) = ⟨i2, t2, l2⟩) := ⟨_, rfl⟩
  rw [← hq]
  have HQ := Lib.hid hq
  clear hq
  have hk := (Keeps.refl [] w).alloc (.cells #[.int .u64 (i1 : Nat), .int .u64 (t1 : Nat), .slice ao l1.length c] 69)
  have hk2 := hk.alloc (.cells #[.int .u64 (i2 : Nat), .int .u64 (t2 : Nat), .slice bo l2.length d] 69)
  have hB := bytes_any ao bo c d l1 l2 _ (h.keep0 hk2) (h'.keep0 hk2)
  have HB := Lib.hid (And.intro hB hk2)
  clear hk hk2 hB
  go_enter Tryd.func42, Tryd.ntmps42
  by_cases e1 : i1 = i2
  · by_cases e2 : t1 = t2
    · subst e1 e2
      obtain rfl : q = (l1 == l2) := by rw [HQ.out, Bool.eq_iff_iff]; simp
      go_wp2_with fail
      refine HB.out.1.mono ?_
      rintro e w3 ⟨rfl, hw⟩
      have hk3 := HB.out.2
      rw [← hw] at hk3
      clear hw
      go_wp2_with fail
      go_ret
      exact ⟨rfl, hk3⟩
    · subst e1
      have m : ¬ ((t1 : Int) = (t2 : Int)) := by omega
      obtain rfl : q = false := by rw [HQ.out]; simp [e2]
      go_wp2_with fail
      go_ret
      exact ⟨rfl, HB.out.2⟩
  · have m : ¬ ((i1 : Int) = (i2 : Int)) := by omega
    obtain rfl : q = false := by rw [HQ.out]; simp [e1]
    go_wp2_with fail
    go_ret
    exact ⟨rfl, HB.out.2⟩
end Go.Proofs.YtcebbgmjbincbaaDoor
