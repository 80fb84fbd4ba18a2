/- Bytes and integers that come in. -/
import Derived.Test.YtcebbgmjbincbaaDoorWin2
import Derived.Test.YtcebbgmjbincbaaDoorBy
namespace Go.Proofs.YtcebbgmjbincbaaDoor
open Go.RowKit

theorem in_one_u8 : Tryd.prog.cellsOf 5 = 1 := by kernel_rfl
theorem in_one_i16 : Tryd.prog.cellsOf 32 = 1 := by kernel_rfl
theorem flat_bys (l : List UInt8) : (l.map fun b => [Value.int .u8 (b.toNat : Nat)]).flatten = bys l := by
  induction l with
  | nil => rfl
  | cons x l ih =>
    rw [List.map_cons, List.flatten_cons, ih]
    rfl
theorem flat_one {α : Type} (f : α → Value) (l : List α) : (l.map fun b => [f b]).flatten = l.map f := by
  induction l with
  | nil => rfl
  | cons x l ih =>
    rw [List.map_cons, List.flatten_cons, ih]
    rfl
section
variable {H : Type} {enc : TypeId × Value → H} {w : World}
theorem rb_in {a : Option Addr} {len cap : Nat} (h : Rd enc w 22 [.slice a len cap]) : ∃ l : List UInt8, l.length = len ∧ Rb w a cap l := by
  obtain ⟨l, hl, _, hS⟩ := sl_in h Tryd.underlying22 in_one_u8 (by omega) (0 : UInt8) (fun b => [Value.int .u8 (b.toNat : Nat)]) (fun _ => True) (fun _ => rfl)
    (by intro v u hu; simp at hu; subst hu; rfl) (fun cs hc => by
      obtain ⟨m, rfl, hm⟩ := hc.int Tryd.underlying5
      have hb := bounds_u8 hm
      have e : ((UInt8.ofNat m.toNat).toNat : Int) = m := by rw [UInt8.toNat_ofNat']; omega
      exact ⟨UInt8.ofNat m.toNat, by rw [e], trivial⟩)
  subst hl
  rw [flat_bys] at hS
  exact ⟨l, rfl, hS⟩
theorem i16s_in {a : Option Addr} {len cap : Nat} (h : Rd enc w 23 [.slice a len cap]) : ∃ l : List Int, l.length = len ∧ (∀ k ∈ l, -32768 ≤ k ∧ k ≤ 32767) ∧ Sl w 1 a len cap (l.map (Value.int .i16)) := by
  obtain ⟨l, hl, hq, hS⟩ := sl_in h Tryd.underlying23 in_one_i16 (by omega) (0 : Int) (fun b => [Value.int .i16 b]) (fun k => -32768 ≤ k ∧ k ≤ 32767) (fun _ => rfl)
    (by intro v u hu; simp at hu; subst hu; rfl) (fun cs hc => by
      obtain ⟨m, rfl, hm⟩ := hc.int Tryd.underlying32
      exact ⟨m, rfl, bounds_i16 hm⟩)
  rw [flat_one] at hS
  exact ⟨l, hl, hq, hS⟩
end
end Go.Proofs.YtcebbgmjbincbaaDoor
