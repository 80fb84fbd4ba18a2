/- The log's methods, one contract each: Compact. -/
import Derived.Test.YtahdclnflpkbcaaDoorLog4
import Derived.Deep.RegionLaw

namespace Go.Proofs.YtahdclnflpkbcaaDoor
open Go.RowKit

theorem LogAt.mk' {w : World} {b : Nat} {base tm : Int} {es : List En} {n c : Nat} {ao : Option Addr} (hn : n = es.length) (hB : Blk w b 77 #[.int .u64 base, .int .u64 tm, .slice ao n c]) (hS : Sl w 5 ao n c (ens es))
    (ha : ∀ ad, ao = some ad → ad.block ≠ b) : LogAt w b ⟨base, tm, es⟩ := by
  subst hn
  exact ⟨ao, c, hB, hS, fun ad e _ => ha ad e⟩

set_option maxRecDepth 100000 in
set_option maxHeartbeats 8000000 in
theorem lcompact (b : Nat) (g : Lg) (i : Int) (w : World) (h : LogAt w b g) (h0 : 0 ≤ g.base) (h1 : g.last < 1000000) (hi0 : g.base ≤ i) (hi1 : i ≤ g.last) :
    Calls Tryd.prog 16 #[.pointer (some ⟨b, 0, none⟩), .int .u64 i] w fun e w' => e = .returned .nilIface ∧ LogAt w' b ⟨i, g.at i, g.es.drop (i - g.base).toNat⟩ ∧ Keeps [b] w w' := by
  have hlast : g.last = g.base + (g.es.length : Int) := rfl
  have hl := h.lt
  go_enter Tryd.func16, Tryd.ntmps16
  go_wp2_with fail
  refine (lterm_ok b g i w h h0 (by omega) hi0 hi1).mono ?_
  rintro e w1 ⟨rfl, hk1⟩
  obtain ⟨ao, c, hB, hS, hap⟩ := h.keep0 hk1
  have hc := hB.cell
  have hl1 := hB.lt
  obtain ⟨q, hq⟩ : ∃ q : Nat, i - g.base = (q : Int) := ⟨(i - g.base).toNat, by omega⟩
  have hqt : (i - g.base).toNat = q := by omega
  have hql : q ≤ g.es.length := by omega
  have r1 : IntKind.u64.wrap (i - g.base) = (q : Int) := by rw [hq]; exact IntWalk.u64_in _ (by omega)
  have hqi : (q : Int) ≤ (g.es.length : Int) := by omega
  have hle : g.es.length ≤ 1000000 := by omega
  have hSd := (hS.drop (k := q) hql).keep0 ((Keeps.refl [] w1).drew)
  have hBd := hB.drew
  have hk1d := hk1.drew
  have hlen : (g.es.drop q).length = g.es.length - q := by simp
  have HC := Lib.hid (fun w' => clone_any (if c = q then ao else ao.map (·.add (q * 5))) (g.es.length - q) (c - q) ((ens g.es).drop (q * 5)) w')
  clear hS hk1 h hap hq
  go_wp2_with fail
  go_region_law
    (first
      | (go_simp; go_at_call 26; refine (HC.out _ hSd (by omega)).mono ?_; rintro e w3 ⟨ao', c', rfl, hS3, hb3, hk3⟩; have hB3 := hBd.keep hk3 (by simp); have hc3 := hB3.cell; have hf3 := hB3.free; have hl3 := hB3.lt))
  all_goals go_wp2_with fail
  all_goals
    go_ret
    refine ⟨rfl, LogAt.mk' (n := g.es.length - q) (c := c') (ao := ao') (by simp) (Blk.eq (((hB3.put 2 _).put 0 _).put 1 _) (by simp)) ?_ ?_, ((((hk1d.of_nil.trans hk3.of_nil).set (by simp) _).set (by simp) _).set (by simp) _)⟩
    · rw [ens_drop]
      exact hS3.keep (L := [b]) ((((Keeps.refl [b] w3).set (by simp) _).set (by simp) _).set (by simp) _) (fun ad e _ => by have := hb3 ad e; simp at this ⊢; omega)
    · intro ad e
      have := hb3 ad e
      simp at this
      omega
end Go.Proofs.YtahdclnflpkbcaaDoor
