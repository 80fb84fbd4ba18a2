/- The wal's laws: bytes, integers, a crash that come in. -/
import Derived.Test.YtfgmbjdeimallaaGreatWin2
import Derived.Test.YtfgmbjdeimallaaGreatBy
namespace Go.Proofs.YtfgmbjdeimallaaGreat
open Go.RowKit

theorem vin_u8 : Tryz.prog.cellsOf 5 = 1 := by kernel_rfl
theorem vin_int : Tryz.prog.cellsOf 3 = 1 := by kernel_rfl
theorem vin_ints : Tryz.prog.cellsOf 23 = 1 := by kernel_rfl
theorem vin_crash : Tryz.prog.cellsOf 25 = 1 := by kernel_rfl
theorem vflat_bys (l : List UInt8) : (l.map fun b => [Value.int .u8 (b.toNat : Nat)]).flatten = bys l := by
  induction l with
  | nil => rfl
  | cons x l ih =>
    rw [List.map_cons, List.flatten_cons, ih]
    rfl
theorem vflat_one {α : Type} (f : α → Value) (l : List α) : (l.map fun b => [f b]).flatten = l.map f := by
  induction l with
  | nil => rfl
  | cons x l ih =>
    rw [List.map_cons, List.flatten_cons, ih]
    rfl
section
variable {H : Type} {enc : TypeId × Value → H} {w : World}
theorem vrb_in {a : Option Addr} {len cap : Nat} (h : Rd enc w 22 [.slice a len cap]) : ∃ l : List UInt8, l.length = len ∧ Rb w a cap l := by
  obtain ⟨l, hl, _, hS⟩ := sl_in h Tryz.underlying22 vin_u8 (by omega) (0 : UInt8) (fun b => [Value.int .u8 (b.toNat : Nat)]) (fun _ => True) (fun _ => rfl)
    (by intro v u hu; simp at hu; subst hu; rfl) (fun cs hc => by
      obtain ⟨m, rfl, hm⟩ := hc.int Tryz.underlying5
      have hb := bounds_u8 hm
      have e : ((UInt8.ofNat m.toNat).toNat : Int) = m := by rw [UInt8.toNat_ofNat']; omega
      exact ⟨UInt8.ofNat m.toNat, by rw [e], trivial⟩)
  subst hl
  rw [vflat_bys] at hS
  exact ⟨l, rfl, hS⟩
theorem vints_in {a : Option Addr} {len cap : Nat} (h : Rd enc w 23 [.slice a len cap]) : ∃ l : List Int, l.length = len ∧ Sl w 1 a len cap (l.map (Value.int .i64)) := by
  obtain ⟨l, hl, _, hS⟩ := sl_in h Tryz.underlying23 vin_int (by omega) (0 : Int) (fun b => [Value.int .i64 b]) (fun _ => True) (fun _ => rfl)
    (by intro v u hu; simp at hu; subst hu; rfl) (fun cs hc => by
      obtain ⟨m, rfl, _⟩ := hc.int Tryz.underlying3
      exact ⟨m, rfl, trivial⟩)
  rw [vflat_one] at hS
  exact ⟨l, hl, hS⟩
theorem vcrash_in {cs : List Value} (h : Rd enc w 25 cs) : ∃ (ka : Option Addr) (kc : Nat) (keep : List Int), cs = [.slice ka keep.length kc] ∧ Sl w 1 ka keep.length kc (keep.map (Value.int .i64)) := by
  obtain ⟨hl, hs⟩ := h.struct Tryz.underlying25
  rw [vin_crash] at hl
  obtain ⟨c, rfl⟩ := List.length_eq_one_iff.1 hl
  have m : Rd enc w 23 [c] := by have := hs 0 _ rfl; simpa [vin_ints] using this
  obtain ⟨ka, kl, kc, ek, _⟩ := m.slice Tryz.underlying23 vin_int (by omega)
  simp only [List.cons.injEq, and_true] at ek
  subst ek
  obtain ⟨keep, rfl, hK⟩ := vints_in m
  exact ⟨ka, kc, keep, rfl, hK⟩
end
end Go.Proofs.YtfgmbjdeimallaaGreat
