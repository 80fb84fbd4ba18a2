/- The help's comparisons of lists of texts, of values and of answers, each of a thing and itself. -/
import Derived.Test.YtpkjcdmeabjifaaDoorLaws
namespace Go.Proofs.YtpkjcdmeabjifaaDoor
open Go.RowKit

set_option maxHeartbeats 1000000 in
theorem texts_same (a : Option Addr) (l c : Nat) (w : World) (hl : l ≤ 9223372036854775807)
    (hz : ∀ i, i < l → ∃ b o s, a = some ⟨b, o, none⟩ ∧ w.cell? ⟨b, o + i, none⟩ = some (.string s)) :
    Calls Tryd.prog 28 #[.slice a l c, .slice a l c] w fun e w' => e = .returned (.bool true) ∧ Keeps [] w w' := by
  have HZ := Lib.hid hz
  clear hz
  go_enter Tryd.func28, Tryd.ntmps28
  go_wp2
  go_loopw [5] (fun i wr => ∃ k : Nat, k ≤ l ∧ i = .int .i64 (k : Int) ∧ Keeps [] w wr) (fun i _ => l - (intOf i).toNat)
  case atStart => exact ⟨0, by omega, rfl, Keeps.refl _ _⟩
  case round =>
    obtain ⟨k, hk, rfl, hkk⟩ := hrel
    by_cases hlt : k < l
    · obtain ⟨b, o, s, rfl, hc⟩ := HZ.out k hlt
      replace hc := hkk.cellSome hc (by simp)
      have h0 : (0 : Int) ≤ (k : Int) := by omega
      have h1 : (k : Int) < (l : Int) := by omega
      go_wp2
      go_quiet (fail)
      go_wp2
      go_roundw
      case rel => exact ⟨k + 1, by omega, by go_num, hkk.drewN _⟩
      case measure => simp [intOf]; omega
    · go_wp2
      go_ret
      exact ⟨rfl, hkk⟩

set_option maxHeartbeats 2000000 in
theorem values_same (a : Option Addr) (l c : Nat) (w : World) (hl : l ≤ 9223372036854775807)
    (hz : ∀ i, i < l → ∃ b o x y s, a = some ⟨b, o, none⟩ ∧ w.cell? ⟨b, o + i * 3, none⟩ = some (.int .i64 x) ∧ w.cell? ⟨b, o + i * 3 + 1, none⟩ = some (.int .i64 y) ∧ w.cell? ⟨b, o + i * 3 + 2, none⟩ = some (.string s)) :
    Calls Tryd.prog 29 #[.slice a l c, .slice a l c] w fun e w' => e = .returned (.bool true) ∧ Keeps [] w w' := by
  have HZ := Lib.hid hz
  clear hz
  go_enter Tryd.func29, Tryd.ntmps29
  go_wp2
  go_loopw [5] (fun i wr => ∃ k : Nat, k ≤ l ∧ i = .int .i64 (k : Int) ∧ Keeps [] w wr) (fun i _ => l - (intOf i).toNat)
  case atStart => exact ⟨0, by omega, rfl, Keeps.refl _ _⟩
  case round =>
    obtain ⟨k, hk, rfl, hkk⟩ := hrel
    by_cases hlt : k < l
    · obtain ⟨b, o, x, y, s, rfl, hc0, hc1, hc2⟩ := HZ.out k hlt
      replace hc0 := hkk.cellSome hc0 (by simp)
      replace hc1 := hkk.cellSome hc1 (by simp)
      replace hc2 := hkk.cellSome hc2 (by simp)
      have h0 : (0 : Int) ≤ (k : Int) := by omega
      have h1 : (k : Int) < (l : Int) := by omega
      go_wp2
      go_quiet (fail)
      go_wp2
      go_roundw
      case rel => exact ⟨k + 1, by omega, by go_num, hkk.drewN _⟩
      case measure => simp [intOf]; omega
    · go_wp2
      go_ret
      exact ⟨rfl, hkk⟩
end Go.Proofs.YtpkjcdmeabjifaaDoor
