/- A node of a group: others; feeds. -/
import Derived.Test.YtdeaelbelcjhcaaDoorRaft21


namespace Go.Proofs.YtdeaelbelcjhcaaDoor
open Go.RowKit

theorem infoI : ∃ i z, Tryd.prog.info? 3 = some i ∧ i.zero = some z ∧ i.size = 1 ∧ i.bytes = 8 ∧ z.cells.size = 1 := by
  have h : (Tryd.prog.info? 3).map (fun i => (i.size, i.bytes, (i.zero.map fun z => z.cells.size))) = some (1, 8, some 1) := by kernel_rfl
  obtain ⟨i, hi, hx⟩ := Option.map_eq_some_iff.1 h
  simp only [Prod.mk.injEq] at hx
  obtain ⟨z, hz, hc⟩ := Option.map_eq_some_iff.1 hx.2.2
  exact ⟨i, z, hi, hz, hx.1, hx.2.1, hc⟩

/-- the numbers below i but for one -/
def oth (id i : Nat) : List Nat := (List.range i).filter fun j => j != id
theorem oth_succ_eq (id : Nat) : oth id (id + 1) = oth id id := by simp [oth, List.range_succ]
theorem oth_succ_ne {id i : Nat} (h : i ≠ id) : oth id (i + 1) = oth id i ++ [i] := by simp [oth, List.range_succ, h]
theorem oth_le (id i : Nat) : (oth id i).length ≤ i := by
  have := List.length_filter_le (fun j => j != id) (List.range i)
  simpa [oth] using this
theorem oth_mem {id i k : Nat} (h : k < (oth id i).length) : (oth id i)[k] < i ∧ (oth id i)[k] ≠ id := by
  have := List.getElem_mem h
  unfold oth at this
  simp only [List.mem_filter, List.mem_range, bne_iff_ne, ne_eq] at this
  exact this
def nats (l : List Nat) : List Value := l.map fun (j : Nat) => Value.int .i64 (j : Int)
theorem nats_one (l : List Nat) : ∀ u ∈ nats l, u.oneCell' = true := by
  intro u hu
  obtain ⟨_, _, rfl⟩ := List.mem_map.1 hu
  rfl

set_option maxRecDepth 100000 in
set_option maxHeartbeats 4000000 in
theorem rothers (b : Nat) (r : Rf) (id n : Nat) (w : World) (hB : Blk w b 63 r.cells) (hid : r.id = (id : Int)) (hn : r.n = (n : Int)) (h7 : n ≤ 7) :
    Calls Tryd.prog 39 #[.pointer (some ⟨b, 0, none⟩)] w fun e w' => ∃ ao c, e = .returned (.slice ao (oth id n).length c) ∧ w'.ownsRow w.heap.size 3 1 (.slice ao (oth id n).length c) (oth id n).length (nats (oth id n)) ∧ Keeps [] w w' := by
  obtain ⟨i, z, hi, hz, hsz, hby, hzc⟩ := infoI
  have hc := hB.cell
  simp only [Rf.cells, hid, hn] at hc
  have hl := hB.lt
  go_enter Tryd.func39, Tryd.ntmps39
  go_wp2_with fail
  clear hc hl
  go_loopw [3, 9] (fun v3 v9 wr => ∃ (k : Nat) (ao : Option Addr) (c : Nat), v9 = .int .i64 (k : Int) ∧ k ≤ n ∧ v3 = .slice ao (oth id k).length c ∧ wr.ownsRow w.heap.size 3 1 (.slice ao (oth id k).length c) (oth id k).length (nats (oth id k)) ∧ Keeps [] w wr) (fun _ v _ => n - (intOf v).toNat)
  case atStart => exact ⟨0, none, 0, rfl, by omega, rfl, World.ownsRow_nil _ _ _ _, Keeps.refl _ _⟩
  case round =>
    obtain ⟨k, ao, c, rfl, hk, rfl, hO, hkk⟩ := hrel
    have hB1 := hB.keep hkk (by simp)
    have hc := hB1.cell
    simp only [Rf.cells, hid, hn] at hc
    have hl := hB1.lt
    by_cases hlt : k < n
    · have n1 : (k : Int) < (n : Int) := by omega
      have q1 : IntKind.i64.wrap ((k : Int) + 1) = k + 1 := IntWalk.i64_in _ (by omega)
      have hol := oth_le id k
      by_cases hki : k = id
      · subst hki
        go_wp2_with fail
        go_roundw
        case rel => exact ⟨k + 1, ao, c, by simp, by omega, by rw [oth_succ_eq], by rw [oth_succ_eq]; exact hO, hkk⟩
        case measure => simp [intOf]; omega
      · have n2 : ((k : Int) == (id : Int)) = false := by simp; omega
        have hkm := (Keeps.refl [] wr).alloc (.cells #[.int .i64 (k : Int)] 3)
        have hO1 := own_keep hO hkm (by simp)
        have hN1 : Sl (wr.alloc (.cells #[.int .i64 (k : Int)] 3)) 1 (some ⟨wr.heap.size, 0, none⟩) 1 1 [.int .i64 (k : Int)] := Sl.of_blk (Blk.fresh _ _ _) rfl (by decide) (by simp [Value.oneCell'])
        have hkk1 := hkk.trans hkm
        go_wp2_with (at_builtin; refine wpList_append_by _ rfl _ _ 89 89 rfl w.heap.size 3 i z 1 8 Tryd.underlying89 hi hz hsz hby hzc ao _ c (nats (oth id k)) rfl hO1 _ rfl 1 _ (hN1.src Tryd.underlying89) (by unfold maxLen; omega) (by omega) hkk1.size ?_; intro a2 c2 w2 hO2 hka hba)
        have hkk2 := hkk1.step hka (fun x hx => .inr (own_lt hO1 x hx).1)
        clear hO1 hkk1 hN1 hka hba hc hO hkk hB1 hkm
        go_roundw
        case rel =>
          refine ⟨k + 1, a2, c2, by simp, by omega, by rw [oth_succ_ne hki]; simp, ?_, hkk2⟩
          have e1 : (oth id (k + 1)).length = (oth id k).length + 1 := by rw [oth_succ_ne hki]; simp
          have e2 : nats (oth id (k + 1)) = nats (oth id k) ++ [.int .i64 (k : Int)] := by rw [oth_succ_ne hki]; simp [nats]
          rw [e1, e2]
          exact hO2
        case measure => simp [intOf]; omega
    · obtain rfl : k = n := by omega
      go_wp2_with fail
      go_ret
      exact ⟨ao, c, rfl, hO, hkk⟩
end Go.Proofs.YtdeaelbelcjhcaaDoor
