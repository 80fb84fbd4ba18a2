/- The document's numbers, integers, texts and sums as bytes; bytes held against each other. -/
import Derived.Test.YtfgmbjdeimallaaGreatWu
import Derived.Test.YtfgmbjdeimallaaGreatWs
import Derived.Laws.BytesString
import Derived.Laws.BytesArg

namespace Go.Proofs.YtfgmbjdeimallaaGreat
open Go.RowKit Go.Lib

theorem strOf_bys (l : List UInt8) : strOfNums (l.map fun b => ((b.toNat : Nat) : Int)) = ⟨l.toArray⟩ := by
  unfold strOfNums
  congr 1
  simp [List.map_map, Function.comp_def]

/-- bytes as a string -/
theorem run_text {w : World} {ao : Option Addr} {c : Nat} {l : List UInt8} (h : Rb w ao c l) (src dst : TypeId) (hs : Tryz.prog.underlying src = some (.slice 5)) (hd : Tryz.prog.underlying dst = some .string) :
    (convert src dst (.slice ao l.length c)).run Tryz.prog w = .ok (.string ⟨l.toArray⟩) w := by
  cases ao with
  | none =>
    obtain rfl := h.nil rfl
    have hl : l.length = 0 := by have := h.cap; omega
    obtain rfl : l = [] := List.eq_nil_of_length_eq_zero hl
    exact run_convert_bytes_nil w src _ hs Tryz.underlying5 0 0 dst hd
  | some ad =>
    rcases Nat.eq_zero_or_pos l.length with h0 | hpos
    · obtain rfl : l = [] := List.eq_nil_of_length_eq_zero h0
      rw [run_convert_bytes_string w src dst _ _ _ c hs Tryz.underlying5 hd]
      exact run_bytesToString w ad 0 c [] (by simp [loadCells, loadCellsFrom])
    have hsp := h.spot (by have := h.cap; omega) _ rfl
    obtain ⟨b, o, s⟩ := ad
    simp only at hsp
    subst hsp
    have := run_convert_bytes_arg w src _ hs Tryz.underlying5 b o l.length c (l.map fun b => ((b.toNat : Nat) : Int)) (by simp) (fun i hi => by
      have h1 := h.cell _ rfl i _ (bys_at hi)
      simp only at h1
      rw [h1]
      simp [List.getD, hi]) dst hd
    rw [strOf_bys] at this
    exact this

theorem str_eq (l m : List UInt8) : ((⟨l.toArray⟩ : ByteArray) = ⟨m.toArray⟩) ↔ l = m := by
  constructor
  · intro h
    have h2 := congrArg (fun x : ByteArray => x.data.toList) h
    simpa using h2
  · rintro rfl; rfl

end Go.Proofs.YtfgmbjdeimallaaGreat
