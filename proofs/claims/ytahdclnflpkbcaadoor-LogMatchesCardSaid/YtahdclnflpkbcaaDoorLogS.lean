/- consistoryref1.SameEntries of entries that are the same. -/
import Derived.Test.YtahdclnflpkbcaaDoorLog4
import Derived.Test.YtahdclnflpkbcaaDoorLaws2

namespace Go.Proofs.YtahdclnflpkbcaaDoor
open Go.RowKit

/-- the five cells of an entry of a slice -/
theorem sl_entry {w : World} {zb zo n c : Nat} {l : List En} (h : Sl w 5 (some ⟨zb, zo, none⟩) n c (ens l)) {k : Nat} {en : En} (hen : l[k]? = some en) :
    w.cell? ⟨zb, zo + k * 5, none⟩ = some (.int .u64 en.term) ∧ w.cell? ⟨zb, zo + k * 5 + 1, none⟩ = some (.int .i64 en.kind) ∧ w.cell? ⟨zb, zo + k * 5 + 2, none⟩ = some (.int .u64 en.client) ∧ w.cell? ⟨zb, zo + k * 5 + 3, none⟩ = some (.int .u64 en.seq) ∧ w.cell? ⟨zb, zo + k * 5 + 4, none⟩ = some (.string en.sql) := by
  have key : ∀ r v, r < 5 → en.cells[r]? = some v → w.cell? ⟨zb, zo + k * 5 + r, none⟩ = some v := by
    intro r v hr hv
    have := h.cell _ rfl (k * 5 + r) v (by rw [ens_at l k en hen r hr]; exact hv)
    simpa [Nat.add_assoc] using this
  exact ⟨key 0 _ (by omega) rfl, key 1 _ (by omega) rfl, key 2 _ (by omega) rfl, key 3 _ (by omega) rfl, key 4 _ (by omega) rfl⟩

set_option maxRecDepth 100000 in
set_option maxHeartbeats 4000000 in
theorem same_entries (ao bo : Option Addr) (n c d : Nat) (l : List En) (w : World) (hn : n = l.length) (hle : l.length ≤ 1000000) (hS : Sl w 5 ao n c (ens l)) (hT : Sl w 5 bo n d (ens l)) :
    Calls Tryd.prog 14 #[.slice ao n c, .slice bo n d] w fun e w' => e = .returned (.bool true) ∧ Keeps [] w w' := by
  subst hn
  go_enter Tryd.func14, Tryd.ntmps14
  go_wp2_with fail
  go_loopw [5] (fun i wr => ∃ k : Nat, k ≤ l.length ∧ i = .int .i64 (k : Int) ∧ Keeps [] w wr) (fun i _ => l.length - (intOf i).toNat)
  case atStart => exact ⟨0, by omega, rfl, Keeps.refl _ _⟩
  case round =>
    obtain ⟨k, hk, rfl, hkk⟩ := hrel
    by_cases hlt : k < l.length
    · obtain ⟨en, hen⟩ : ∃ en, l[k]? = some en := ⟨_, List.getElem?_eq_getElem hlt⟩
      have hSk := hS.keep0 hkk
      have hTk := hT.keep0 hkk
      obtain ⟨zb, zo, rfl⟩ := hSk.at (by have := hSk.cap; omega)
      obtain ⟨yb, yo, rfl⟩ := hTk.at (by have := hTk.cap; omega)
      obtain ⟨a0, a1, a2, a3, a4⟩ := sl_entry hSk hen
      obtain ⟨b0, b1, b2, b3, b4⟩ := sl_entry hTk hen
      have hkl : (k : Int) < (l.length : Int) := by omega
      clear hSk hTk hS hT
      go_wp2_with fail
      go_quiet (fail)
      go_wp2_with fail
      go_roundw
      case rel => exact ⟨k + 1, by omega, by go_num, hkk.drewN _⟩
      case measure => simp [intOf]; omega
    · have hkl : k = l.length := by omega
      subst hkl
      go_wp2_with fail
      go_ret
      exact ⟨rfl, hkk⟩
end Go.Proofs.YtahdclnflpkbcaaDoor
