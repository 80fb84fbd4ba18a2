/- Spoil; what comes in: integers one behind the other. -/
import Derived.Test.YtcebbgmjbincbaaDoorDlR
import Derived.Test.YtcebbgmjbincbaaDoorOg

namespace Go.Proofs.YtcebbgmjbincbaaDoor
open Go.RowKit Go.Lib

set_option maxRecDepth 100000 in
theorem spoil_own {w : World} (ao : Option Addr) (c : Nat) (l : List UInt8) (h : OwnG w ao c l) (hl : l.length ≤ 1000000) :
    Calls Tryd.prog 22 #[.slice ao l.length c] w fun e w' => e = .returned (.tuple #[]) ∧ Keeps (blks ao) w w' := by
  rcases h with ⟨rfl, rfl, rfl⟩ | ⟨g, cur, rfl, hg, h1, h2, h3, h4⟩
  · go_enter Tryd.func22, Tryd.ntmps22
    go_wp2_with fail
    go_loopw [2] (fun v wr => v = .int .i64 0 ∧ wr = w) (fun _ _ => 0)
    case atStart => exact ⟨rfl, rfl⟩
    case round =>
      obtain ⟨rfl, rfl⟩ := hrel
      go_wp2_with fail
      go_end0
      exact ⟨rfl, Keeps.refl _ _⟩
  · have hB : Blk w g 5 cur := hg
    clear hg h4
    go_enter Tryd.func22, Tryd.ntmps22
    go_wp2_with fail
    go_loopw [2] (fun v wr => ∃ (i : Nat) (cur' : Array Value), v = .int .i64 (i : Int) ∧ i ≤ l.length ∧ Blk wr g 5 cur' ∧ cur'.size = cur.size ∧ Keeps [g] w wr) (fun v _ => l.length - (intOf v).toNat)
    case atStart => exact ⟨0, cur, rfl, Nat.zero_le _, hB, rfl, Keeps.refl _ _⟩
    case round =>
      obtain ⟨i, cur', rfl, hi, hB', hcs', hkr⟩ := hrel
      rcases (by omega : i = l.length ∨ i < l.length) with hie | hil
      · have n1 : ¬ ((i : Int) < (l.length : Int)) := by omega
        go_wp2_with fail
        go_end0
        exact ⟨rfl, hkr.mono (fun x hx => by simpa using hx)⟩
      · have n1 : (i : Int) < (l.length : Int) := by omega
        have n2 : (0 : Int) ≤ (i : Int) := by omega
        have q1 : IntKind.i64.wrap ((i : Int) + 1) = i + 1 := IntWalk.i64_in _ (by omega)
        have hfr := hB'.free i
        have hlt := hB'.lt
        obtain ⟨old, hold⟩ : ∃ old, cur'[i]? = some old := ⟨_, Array.getElem?_eq_getElem (by omega)⟩
        have hc0 : wr.cell? ⟨g, i, none⟩ = some old := by rw [hB'.cell]; exact hold
        go_wp2_with fail
        go_roundw
        case rel => exact ⟨i + 1, _, by simp, by omega, hB'.put i (.int .u8 238), by simpa using hcs', hkr.set (p := ⟨g, i, none⟩) (.inl (by simp)) _⟩
        case measure => simp [intOf]; omega

theorem in_one_int : Tryd.prog.cellsOf 3 = 1 := by kernel_rfl
theorem in_one_bs : Tryd.prog.cellsOf 22 = 1 := by kernel_rfl
theorem in_one_is : Tryd.prog.cellsOf 34 = 1 := by kernel_rfl
theorem in_cr1 : Tryd.prog.cellsOf 36 = 1 := by kernel_rfl
theorem sizeCr : (Tryd.prog.info? 36).map (·.size) = some 1 := by kernel_rfl
theorem in_cons {n : Nat} {l : List Value} (h : l.length = n + 1) : ∃ c r, l = c :: r ∧ r.length = n := by
  cases l with
  | nil => simp at h
  | cons c r => exact ⟨c, r, rfl, by simpa using h⟩
section
variable {H : Type} {enc : TypeId × Value → H} {w : World}
theorem ints_in {a : Option Addr} {len cap : Nat} (h : Rd enc w 34 [.slice a len cap]) : ∃ l : List Int, l.length = len ∧ Sl w 1 a len cap (l.map (Value.int .i64)) := by
  obtain ⟨l, hl, _, hS⟩ := sl_in h Tryd.underlying34 in_one_int (by omega) (0 : Int) (fun b => [Value.int .i64 b]) (fun _ => True) (fun _ => rfl)
    (by intro v u hu; simp at hu; subst hu; rfl) (fun cs hc => by
      obtain ⟨m, rfl, _⟩ := hc.int Tryd.underlying3
      exact ⟨m, rfl, trivial⟩)
  rw [flat_one] at hS
  exact ⟨l, hl, hS⟩
end
end Go.Proofs.YtcebbgmjbincbaaDoor
