/- Bytes that come in. -/
import Derived.Test.YtfgmbjdeimallaaGreatBy
import Derived.Test.YtfgmbjdeimallaaGreatRead
import Derived.OpenShut

namespace Go.Proofs.YtfgmbjdeimallaaGreat
open Go.RowKit

theorem bytes_in {H : Type} {enc : TypeId × Value → H} {w : World} {a : Option Addr} {len cap : Nat} (h : Rd enc w 22 [.slice a len cap]) :
    ∃ l : List UInt8, l.length = len ∧ len ≤ cap ∧ cap ≤ maxLen ∧ ∀ i (hi : i < l.length), ∃ b o, a = some ⟨b, o, none⟩ ∧ w.cell? ⟨b, o + i, none⟩ = some (.int .u8 (l[i].toNat : Nat)) := by
  obtain ⟨a', len', cap', he, hlc, hcm, hi⟩ := h.slice Tryz.underlying22 (size := 1) (by kernel_rfl) (by decide)
  simp only [List.cons.injEq, Value.slice.injEq, and_true] at he
  obtain ⟨rfl, rfl, rfl⟩ := he
  have hz : ∀ i, ∃ z : UInt8, i < len → ∃ b off, a = some ⟨b, off, none⟩ ∧ w.cell? ⟨b, off + i, none⟩ = some (.int .u8 (z.toNat : Nat)) := by
    intro i
    by_cases hl : i < len
    · obtain ⟨b, o, ha, cs', _, hat, hr⟩ := hi i hl
      obtain ⟨m, rfl, hm⟩ := hr.int Tryz.underlying5
      have hb := bounds_u8 hm
      refine ⟨UInt8.ofNat m.toNat, fun _ => ⟨b, o, ha, ?_⟩⟩
      have h0 := hat 0 (.int .u8 m) rfl
      have e : ((UInt8.ofNat m.toNat).toNat : Int) = m := by rw [UInt8.toNat_ofNat']; omega
      rw [e]
      simpa using h0
    · exact ⟨0, fun h => absurd h hl⟩
  refine ⟨(List.range len).map fun i => Classical.choose (hz i), by simp, hlc, hcm, ?_⟩
  intro i hil
  have hl : i < len := by simpa using hil
  have := Classical.choose_spec (hz i) hl
  simpa using this

/-- as the source of an append -/
theorem src_in {H : Type} {enc : TypeId × Value → H} {w : World} {a : Option Addr} {len cap : Nat} (h : Rd enc w 22 [.slice a len cap]) :
    ∃ l : List UInt8, l.length = len ∧ ∀ w', Keeps [] w w' → Src Tryz.prog 1 22 (.slice a len cap) len (bys l) w' := by
  obtain ⟨l, hl, _, _, hi⟩ := bytes_in h
  refine ⟨l, hl, fun w' hk => ?_⟩
  subst hl
  cases l with
  | nil =>
    cases a with
    | none => exact Src.ofNil w' Tryz.underlying22 cap
    | some ad => exact Src.ofSlice w' Tryz.underlying22 ad 0 cap [] (by simp) (fun j u hj => by simp at hj) (fun u hu => by cases hu)
  | cons x l =>
    obtain ⟨b, o, rfl, _⟩ := hi 0 (by simp)
    refine Src.ofSlice w' Tryz.underlying22 _ _ cap (bys (x :: l)) (by simp) ?_ (bys_one _)
    intro j u hj
    have hjl := (List.getElem?_eq_some_iff.1 hj).1
    rw [bys_length] at hjl
    obtain ⟨b', o', he, hc⟩ := hi j hjl
    cases he
    rw [bys_at hjl] at hj
    rw [addr_add rfl, ← hj]
    exact hk.cellSome hc (by simp)
end Go.Proofs.YtfgmbjdeimallaaGreat
