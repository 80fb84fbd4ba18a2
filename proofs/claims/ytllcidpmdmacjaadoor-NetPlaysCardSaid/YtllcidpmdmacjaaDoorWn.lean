/- Frames read: read, Clone, Unframe. -/
import Derived.Test.YtllcidpmdmacjaaDoorWc
import Derived.Test.YtllcidpmdmacjaaDoorWv
import Derived.Lib.SliceRun
import Derived.Lib.EndianBits

namespace Go.Proofs.YtllcidpmdmacjaaDoor
open Go.RowKit Go.Lib

/-- the number that four bytes tell -/
def val4 : List UInt8 → Nat
  | a :: b :: c :: d :: _ => a.toNat + 256 * b.toNat + 65536 * c.toNat + 16777216 * d.toNat
  | _ => 0
theorem val4_lt (l : List UInt8) : val4 l < 4294967296 := by
  unfold val4
  split
  · rename_i a b c d _
    have := a.toNat_lt; have := b.toNat_lt; have := c.toNat_lt; have := d.toNat_lt
    omega
  · omega

theorem readFacts (a b c d : Nat) (ha : a < 256) (hb : b < 256) (hc : c < 256) (hd : d < 256) :
    ∃ y1 y2 y3 z1 z2 z3 : Int, IntKind.u32.wrap ((b : Int) * 256) = y1 ∧ IntKind.u32.wrap ((c : Int) * 65536) = y2 ∧ IntKind.u32.wrap ((d : Int) * 16777216) = y3 ∧
      bits .or .u32 (a : Int) y1 = z1 ∧ bits .or .u32 z1 y2 = z2 ∧ bits .or .u32 z2 y3 = z3 ∧ z3 = ((a + 256 * b + 65536 * c + 16777216 * d : Nat) : Int) := by
  refine ⟨(b : Int) * 256, (c : Int) * 65536, (d : Int) * 16777216, (a : Int) + b * 256, (a : Int) + b * 256 + c * 65536, (a : Int) + b * 256 + c * 65536 + d * 16777216, IntWalk.u32_in _ (by omega), IntWalk.u32_in _ (by omega), IntWalk.u32_in _ (by omega), ?_, ?_, ?_, by omega⟩
  · exact u32_or8 _ _ (by omega) (by omega) (by omega) (by omega) (by omega)
  · exact u32_or16 _ _ (by omega) (by omega) (by omega) (by omega) (by omega)
  · exact u32_or24 _ _ (by omega) (by omega) (by omega) (by omega) (by omega)

set_option maxRecDepth 100000 in
theorem clone_bytes (ad : Addr) (c : Nat) (l : List UInt8) (w : World) (h : Rb w (some ad) c l) (hl : l.length ≤ 1000000000) :
    Calls Tryd.prog 41 #[.slice (some ad) l.length c] w fun e w' => ∃ bo d, e = .returned (.slice bo l.length d) ∧ Rb w' bo d l ∧ Keeps [] w w' := by
  obtain ⟨i, z, hi, hz, hsz, hby, hzc⟩ := infoB
  have q := fun (W : World) (a : Option Addr) (n c n' c' : Nat) => Lib.run_eql_slice_nil (P := Tryd.prog) W 34 _ a n c n' c' Tryd.underlying34
  have hk0 := (Keeps.refl [] w).alloc (.cells #[] 5)
  have hO0 : Own (w.alloc (.cells #[] 5)) w.heap.size (some ⟨w.heap.size, 0, none⟩) 0 [] := World.ownsRow_lit (base := w.heap.size) (e := 5) (size := 1) w #[] 0 (Nat.le_refl _) (by decide) rfl
  have h0 := h.keep0 hk0
  go_enter Tryd.func41, Tryd.ntmps41
  go_wp2_with (at_builtin; refine wpList_append_by _ rfl _ _ 34 34 rfl w.heap.size 5 i z 1 1 Tryd.underlying34 hi hz hsz hby hzc (some ⟨w.heap.size, 0, none⟩) _ 0 _ rfl hO0 _ rfl l.length _ (h0.src Tryd.underlying34) (by unfold maxLen; omega) (by omega) (by simp) ?_; intro a1 c1 w1 hO1 hk1 hb1)
  have hO2 : Own w1 w.heap.size a1 c1 l := Own.of hO1 rfl
  go_ret
  exact ⟨a1, c1, rfl, hO2.rb, hk0.own hk1 hO0⟩

/-- what Unframe tells -/
def unfr (l : List UInt8) : List UInt8 × Nat × Nat :=
  if l.length < 4 then ([], 0, 22) else
  if 262144 < val4 l then ([], 0, 20) else
  if l.length < val4 l + 8 then ([], 0, 22) else
  if val4 (l.drop (val4 l + 4)) ≠ crc (l.take (val4 l + 4)) then ([], 0, 21) else
  ((l.drop 4).take (val4 l), val4 l + 8, 0)

end Go.Proofs.YtllcidpmdmacjaaDoor
