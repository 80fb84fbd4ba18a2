/- Entries in a row, rows in a row; the help's Small and Values. -/
import Derived.Test.YtfgmbjdeimallaaGreatDoorWoZ
import Derived.Test.YtfgmbjdeimallaaGreatDoorWin3
import Derived.Test.YtfgmbjdeimallaaGreatDoorWe
import Derived.Test.YtfgmbjdeimallaaGreatDoorWvZ

namespace Go.Proofs.YtfgmbjdeimallaaGreatDoor
open Go.RowKit Go.Lib

/-- two runs of cells that are owned, of different types, lie apart -/
theorem ownsRow_apart {w : World} {N N' sz sz' n n' c c' : Nat} {e e' : TypeId} {ao ao' : Option Addr} {xs xs' : List Value} (h : w.ownsRow N e sz (.slice ao n c) n xs) (h' : w.ownsRow N' e' sz' (.slice ao' n' c') n' xs') (ht : e ≠ e') : ∀ x ∈ blks ao, x ∉ blks ao' := by
  intro x hx hx'
  rcases h.2 with ⟨h0, _⟩ | ⟨g, cap, cur, he, hb, hg, rest⟩
  · simp only [Value.slice.injEq] at h0
    obtain ⟨rfl, _, rfl⟩ := h0
    simp at hx
  simp only [Value.slice.injEq] at he
  obtain ⟨rfl, _, rfl⟩ := he
  rcases h'.2 with ⟨h0, _⟩ | ⟨g', cap', cur', he', hb', hg', rest'⟩
  · simp only [Value.slice.injEq] at h0
    obtain ⟨rfl, _, rfl⟩ := h0
    simp at hx'
  simp only [Value.slice.injEq] at he'
  obtain ⟨rfl, _, rfl⟩ := he'
  simp at hx hx'
  subst hx
  subst hx'
  rw [hg] at hg'
  simp only [Option.some.injEq, Obj.cells.injEq] at hg'
  exact ht hg'.2.1

def ents (l : List Ent) : List Value := (l.map fun e => e.cells.toList).flatten
theorem ents_nil : ents [] = [] := rfl
theorem ents_append (l m : List Ent) : ents (l ++ m) = ents l ++ ents m := by simp [ents]
theorem ents_length (l : List Ent) : (ents l).length = l.length * 5 := flat_length _ 5 (fun _ => rfl) l
theorem ents_one (l : List Ent) : ∀ u ∈ ents l, u.oneCell' = true := by
  intro u hu
  obtain ⟨cs, hcs, hu2⟩ := List.mem_flatten.1 hu
  obtain ⟨x, _, rfl⟩ := List.mem_map.1 hcs
  simp at hu2
  rcases hu2 with rfl | rfl | rfl | rfl | rfl <;> rfl
/-- entries that may be read -/
abbrev Re (w : World) (ao : Option Addr) (c : Nat) (l : List Ent) : Prop := Sl w 5 ao l.length c (ents l)
theorem Re.at {w : World} {ao : Option Addr} {c : Nat} {l : List Ent} (h : Re w ao c l) {k : Nat} {e : Ent} (hv : l[k]? = some e) :
    ∃ bb o, ao = some ⟨bb, o, none⟩ ∧ w.cell? ⟨bb, o + k * 5, none⟩ = some (.int .u64 e.term) ∧ w.cell? ⟨bb, o + k * 5 + 1, none⟩ = some (.int .i64 e.kind) ∧ w.cell? ⟨bb, o + k * 5 + 2, none⟩ = some (.int .u64 e.client) ∧ w.cell? ⟨bb, o + k * 5 + 3, none⟩ = some (.int .u64 e.seq) ∧ w.cell? ⟨bb, o + k * 5 + 4, none⟩ = some (.string e.sql) := by
  have hkl := (List.getElem?_eq_some_iff.1 hv).1
  obtain ⟨bb, o, rfl⟩ := Sl.at h (by have := h.cap; omega)
  have hc : ∀ j u, j < 5 → e.cells.toList[j]? = some u → w.cell? ⟨bb, o + (k * 5 + j), none⟩ = some u := fun j u hj hu => h.cell _ rfl _ u ((flat_at _ 5 (fun _ => rfl) l k j e hv hj).trans hu)
  refine ⟨bb, o, rfl, ?_, ?_, ?_, ?_, ?_⟩
  · have := hc 0 _ (by decide) rfl; simpa using this
  · have := hc 1 _ (by decide) rfl; simpa [Nat.add_assoc] using this
  · have := hc 2 _ (by decide) rfl; simpa [Nat.add_assoc] using this
  · have := hc 3 _ (by decide) rfl; simpa [Nat.add_assoc] using this
  · have := hc 4 _ (by decide) rfl; simpa [Nat.add_assoc] using this
theorem infoEn : ∃ i z, Tryz.prog.info? 65 = some i ∧ i.zero = some z ∧ i.size = 5 ∧ i.bytes = 48 ∧ z.cells.size = 5 := by
  have h : (Tryz.prog.info? 65).map (fun i => (i.size, i.bytes, (i.zero.map fun z => z.cells.size))) = some (5, 48, some 5) := by kernel_rfl
  obtain ⟨i, hi, hx⟩ := Option.map_eq_some_iff.1 h
  simp only [Prod.mk.injEq] at hx
  obtain ⟨z, hz, hc⟩ := Option.map_eq_some_iff.1 hx.2.2
  exact ⟨i, z, hi, hz, hx.1, hx.2.1, hc⟩
/-- a row, where it lies -/
structure Ro where
  a : Option Addr
  c : Nat
  l : List Va
abbrev Ro.cell (r : Ro) : Value := .slice r.a r.l.length r.c
def Ro.At (r : Ro) (w : World) : Prop := Rv w r.a r.c r.l ∧ ∀ v ∈ r.l, (Lit.int .i64 v.int).wf = true
theorem Ro.At.keep {r : Ro} {w w' : World} (h : r.At w) (hk : Keeps [] w w') : r.At w' := ⟨h.1.keep0 hk, h.2⟩
abbrev Rr (w : World) (ao : Option Addr) (c : Nat) (l : List Ro) : Prop := Sl w 1 ao l.length c (l.map Ro.cell)
theorem Rr.at {w : World} {ao : Option Addr} {c : Nat} {l : List Ro} (h : Rr w ao c l) {k : Nat} {r : Ro} (hv : l[k]? = some r) :
    ∃ bb o, ao = some ⟨bb, o, none⟩ ∧ w.cell? ⟨bb, o + k, none⟩ = some r.cell := by
  have hkl := (List.getElem?_eq_some_iff.1 hv).1
  obtain ⟨bb, o, rfl⟩ := Sl.at h (by have := h.cap; omega)
  exact ⟨bb, o, rfl, h.cell _ rfl k _ (by rw [List.getElem?_map, hv]; rfl)⟩
theorem ros_one (l : List Ro) : ∀ u ∈ l.map Ro.cell, u.oneCell' = true := by
  intro u hu
  obtain ⟨x, _, rfl⟩ := List.mem_map.1 hu
  rfl

section
variable {H : Type} {enc : TypeId × Value → H} {w : World}
theorem ents_in {a : Option Addr} {len cap : Nat} (h : Rd enc w 22 [.slice a len cap]) : ∃ l : List Ent, l.length = len ∧ (∀ x ∈ l, x.term < 18446744073709551616 ∧ x.client < 18446744073709551616 ∧ x.seq < 18446744073709551616) ∧ Re w a cap l := by
  obtain ⟨l, hl, hq, hS⟩ := sl_in h Tryz.underlying22 in_ent5 (by omega) (⟨0, 0, 0, 0, ⟨#[]⟩⟩ : Ent) (fun e => e.cells.toList) (fun x => x.term < 18446744073709551616 ∧ x.client < 18446744073709551616 ∧ x.seq < 18446744073709551616) (fun _ => rfl)
    (by intro v u hu; simp at hu; rcases hu with rfl | rfl | rfl | rfl | rfl <;> rfl) (fun cs hc => ent_in hc)
  subst hl
  exact ⟨l, rfl, hq, hS⟩
end

def small (l : List Ent) (m : Int) : Bool := l.all (fun v => decide (v.sql.size ≤ 2100)) && decide ((l.length : Int) ≤ m)

set_option maxRecDepth 100000 in
theorem small_any (ao : Option Addr) (c : Nat) (l : List Ent) (m : Int) (w : World) (h : Re w ao c l) :
    Calls Tryz.prog 26 #[.slice ao l.length c, .int .i64 m] w fun e w' => e = .returned (.bool (small l m)) ∧ w' = w := by
  have hmx := h.most
  have hcp := h.cap
  unfold maxLen at hmx
  generalize hq : small l m = q
  have HQ := Lib.hid hq
  clear hq
  go_enter Tryz.func26, Tryz.ntmps26
  go_wp2_with fail
  go_loopw [5] (fun v wr => ∃ k : Nat, v = .int .i64 (k : Int) ∧ k ≤ l.length ∧ (∀ v ∈ l.take k, v.sql.size ≤ 2100) ∧ wr = w) (fun v _ => l.length - (intOf v).toNat)
  case atStart => exact ⟨0, rfl, by omega, by simp, rfl⟩
  case round =>
    obtain ⟨k, rfl, hk, ha, rfl⟩ := hrel
    have HA := Lib.hid ha
    clear ha
    by_cases hkl : k < l.length
    rotate_left
    · have n1 : ¬ ((k : Int) < (l.length : Int)) := by omega
      obtain rfl : k = l.length := by omega
      go_wp2_with fail
      go_ret
      have hall : l.all (fun v => decide (v.sql.size ≤ 2100)) = true := by
        rw [List.all_eq_true]
        intro v hv
        have := HA.out v (by rw [List.take_length]; exact hv)
        simpa using this
      exact ⟨by rw [← HQ.out]; unfold small; rw [hall]; rfl, rfl⟩
    have n1 : (k : Int) < (l.length : Int) := by omega
    have s1 : IntKind.i64.wrap ((k : Int) + 1) = k + 1 := IntWalk.i64_in _ (by omega)
    have hv := List.getElem?_eq_getElem hkl
    generalize l[k] = v at hv
    obtain ⟨bb, o, rfl, c0, c1, c2, c3, c4⟩ := Re.at h hv
    have HV := Lib.hid hv
    clear hv
    by_cases hs : 2100 < v.sql.size
    · have n2 : (2100 : Int) < (v.sql.size : Int) := by omega
      have hall : l.all (fun v => decide (v.sql.size ≤ 2100)) = false := by
        rw [List.all_eq_false]
        exact ⟨v, List.mem_of_getElem? HV.out, by simp; omega⟩
      have hq : q = false := by rw [← HQ.out]; unfold small; rw [hall]; rfl
      subst hq
      clear hall
      go_wp2_with fail
      go_ret
      exact ⟨rfl, rfl⟩
    · have n2 : ¬ ((2100 : Int) < (v.sql.size : Int)) := by omega
      have hnext : ∀ x ∈ l.take (k + 1), x.sql.size ≤ 2100 := by
        intro x hx
        rw [List.take_add_one, HV.out, List.mem_append] at hx
        rcases hx with hx | hx
        · exact HA.out x hx
        · simp at hx
          subst hx
          omega
      have HN := Lib.hid hnext
      clear hnext
      go_wp2_with fail
      go_roundw
      case rel => exact ⟨k + 1, by simp, by omega, HN.out, by simp⟩
      case measure => simp [intOf]; omega

theorem ErrP.bad {w : World} {ev : Value} {f : Nat} (h : ErrP w ev f) (h0 : f ≠ 0) : ∃ t v, ev = .iface t v := by
  cases h with
  | base h =>
    rcases h with ⟨_, h1⟩ | ⟨_, g, p, h1, _⟩
    · exact absurd h1 h0
    · exact ⟨_, _, h1⟩
  | placed he _ _ _ => exact ⟨_, _, he⟩
end Go.Proofs.YtfgmbjdeimallaaGreatDoor
