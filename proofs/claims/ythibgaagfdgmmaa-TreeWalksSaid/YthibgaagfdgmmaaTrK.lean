/- Keys that come in. -/
import Derived.Test.YthibgaagfdgmmaaWin2
import Derived.Test.YthibgaagfdgmmaaTr30
namespace Go.Proofs.Ythibgaagfdgmmaa
open Go.RowKit

theorem in_one_u16 : Try.prog.cellsOf 23 = 1 := by kernel_rfl
theorem flat_u16 (l : List Nat) : (l.map fun b => [Value.int .u16 (b : Nat)]).flatten = u16s l := by
  induction l with
  | nil => rfl
  | cons x l ih =>
    rw [List.map_cons, List.flatten_cons, ih]
    rfl
section
variable {H : Type} {enc : TypeId × Value → H} {w : World}
theorem keys_in {a : Option Addr} {len cap : Nat} (h : Rd enc w 22 [.slice a len cap]) : ∃ l : List Nat, l.length = len ∧ (∀ k ∈ l, k < 65536) ∧ Sl w 1 a l.length cap (u16s l) := by
  obtain ⟨l, hl, hq, hS⟩ := sl_in h Try.underlying22 in_one_u16 (by omega) (0 : Nat) (fun b => [Value.int .u16 (b : Nat)]) (fun k => k < 65536) (fun _ => rfl)
    (by intro v u hu; simp at hu; subst hu; rfl) (fun cs hc => by
      obtain ⟨m, rfl, hm⟩ := hc.int Try.underlying23
      have hb := bounds_u16 hm
      obtain ⟨n, rfl⟩ := Int.eq_ofNat_of_zero_le hb.1
      exact ⟨n, rfl, by omega⟩)
  subst hl
  rw [flat_u16] at hS
  exact ⟨l, rfl, hq, hS⟩
end
end Go.Proofs.Ythibgaagfdgmmaa
