/- The wal's frames: numbers, a hard state, an entry as bytes; frames one behind the other; torn ends. -/
import Derived.Test.YtfgmbjdeimallaaGreatWa3
import Derived.Test.YtfgmbjdeimallaaGreatErrD

namespace Go.Proofs.YtfgmbjdeimallaaGreat
open Go.RowKit Go.Lib

def numB (k : UInt8) (l : List Nat) : List UInt8 := k :: (l.map uvarint).flatten
theorem numB_succ (k : UInt8) {l : List Nat} {j n : Nat} (h : l[j]? = some n) : numB k (l.take (j + 1)) = numB k (l.take j) ++ uvarint n := by
  obtain ⟨hj, rfl⟩ := List.getElem?_eq_some_iff.1 h
  have h : l.take (j + 1) = l.take j ++ [l[j]] := by rw [List.take_add_one, List.getElem?_eq_getElem hj]; rfl
  unfold numB
  rw [h, List.map_append, List.flatten_append]
  simp
theorem numB_most (k : UInt8) : ∀ (l : List Nat), (∀ n ∈ l, n < 18446744073709551616) → (numB k l).length ≤ 1 + 10 * l.length
  | [], _ => by simp [numB]
  | n :: l, h => by
    have := numB_most k l (fun x hx => h x (.tail _ hx))
    have := uvarint_length64 (h n (.head _))
    simp [numB] at *
    omega
theorem own_lit0 (w : World) (l : List UInt8) (N : Nat) (hN : N ≤ w.heap.size) (hl : l.length ≤ 1000 := by simp) : Own (w.alloc (.cells (bys l).toArray 5)) N (some ⟨w.heap.size, 0, none⟩) l.length l := by
  refine ⟨by simp, .inr ⟨w.heap.size, l.length, (bys l).toArray, rfl, hN, heap_alloc_new w _, Nat.le_refl _, by unfold maxLen; omega, by simp, by simp; exact List.take_of_length_le (by simp)⟩⟩

set_option maxRecDepth 100000 in
set_option maxHeartbeats 4000000 in
theorem numbers_any (k : UInt8) (lo : Option Addr) (lc : Nat) (l : List Nat) (w : World) (h : Sl w 1 lo l.length lc (l.map fun n => Value.int .u64 (n : Nat))) (hn : ∀ n ∈ l, n < 18446744073709551616) (hl : l.length ≤ 10) :
    Calls Tryz.prog 28 #[.int .u8 (k.toNat : Nat), .slice lo l.length lc] w fun e w' => ∃ ao d, e = .returned (.slice ao (numB k l).length d) ∧ Own w' w.heap.size ao d (numB k l) ∧ Keeps [] w w' := by
  obtain ⟨i, z, hi, hz, hsz, hby, hzc⟩ := infoB
  have hO0 := own_lit0 w [k] w.heap.size (Nat.le_refl _)
  have hk0 := (Keeps.refl [] w).alloc (.cells (bys [k]).toArray 5)
  have hcp := h.cap
  have H := Lib.hid h
  have HN := Lib.hid hn
  clear h hn
  go_enter Tryz.func28, Tryz.ntmps28
  go_wp2_with fail
  go_loopw [5, 12] (fun v s wr => ∃ (j : Nat) (ao : Option Addr) (c : Nat), v = .slice ao (numB k (l.take j)).length c ∧ s = .int .i64 (j : Int) ∧ j ≤ l.length ∧ Own wr w.heap.size ao c (numB k (l.take j)) ∧ Keeps [] w wr) (fun _ s _ => l.length - (intOf s).toNat)
  case atStart => exact ⟨0, _, 1, rfl, rfl, Nat.zero_le _, hO0, hk0⟩
  case round =>
    obtain ⟨j, ao, c, rfl, rfl, hj, hO, hk⟩ := hrel
    have hmost := numB_most k (l.take j) (fun n hx => HN.out n (List.mem_of_mem_take hx))
    simp only [List.length_take] at hmost
    by_cases hjl : j < l.length
    rotate_left
    · have n1 : ¬ ((j : Int) < (l.length : Int)) := by omega
      obtain rfl : j = l.length := by omega
      rw [List.take_length] at hO ⊢
      clear hO0 hk0
      go_wp2_with fail
      go_ret
      exact ⟨ao, c, rfl, hO, hk⟩
    have n1 : (j : Int) < (l.length : Int) := by omega
    have s1 : IntKind.i64.wrap ((j : Int) + 1) = j + 1 := IntWalk.i64_in _ (by omega)
    have hv := List.getElem?_eq_getElem hjl
    have hnl := HN.out _ (List.getElem_mem hjl)
    generalize l[j] = n at hv hnl
    obtain ⟨b, o, rfl⟩ := H.out.at (by omega)
    have hcj : wr.cell? ⟨b, o + j, none⟩ = some (.int .u64 (n : Nat)) := (H.out.keep0 hk).cell _ rfl j _ (by rw [List.getElem?_map, hv]; rfl)
    have hS := numB_succ k hv
    have HV := Lib.hid (And.intro hv hS)
    clear hv hS hO0 hk0
    go_wp2_with fail
    refine (putUint n wr hnl).mono ?_
    rintro e w1 ⟨ao1, c1, rfl, hO1, hk1⟩
    have hul := uvarint_length64 hnl
    have hO' := hO.keep0 hk1
    clear hcj
    go_wp2_with (at_builtin; refine wpList_append_by _ rfl _ _ 22 22 rfl (w.heap.size) 5 i z 1 1 Tryz.underlying22 hi hz hsz hby hzc (ao) _ (c) _ rfl hO' _ rfl (uvarint n).length _ (hO1.rb.src Tryz.underlying22) (by unfold maxLen; omega) (by omega) (by have := hk.size; have := hk1.size; omega) ?_; intro ao' c' w' hO2 hk' hb')
    have hO3 := Own.of hO2 (bys_append _ _).symm
    rw [← HV.out.2] at hO3
    have hlen : (numB k (l.take j)).length + (uvarint n).length = (numB k (l.take (j + 1))).length := by rw [HV.out.2]; simp
    have HLN := Lib.hid hlen
    clear hlen hO2
    go_roundw
    case rel => exact ⟨j + 1, ao', c', by rw [HLN.out], by simp, by omega, hO3, (hk.trans hk1).own hk' hO'⟩
    case measure => simp [intOf]; omega

theorem sl_u64s {w : World} {b : Nat} {l : List Nat} (h : Blk w b 35 (l.map fun n => Value.int .u64 (n : Nat)).toArray) (hl : l.length ≤ 10) : Sl w 1 (some ⟨b, 0, none⟩) l.length l.length (l.map fun n => Value.int .u64 (n : Nat)) := by
  have := Sl.of_blk (n := l.length) (sz := 1) h (by simp) (by unfold maxLen; omega) (by
    intro u hu
    simp at hu
    obtain ⟨x, _, rfl⟩ := hu
    rfl)
  simpa using this

theorem nums2 (b t m : Nat) (w : World) (h : Blk w (b + 1) 35 #[.int .u64 (t : Nat), .int .u64 (m : Nat)]) : Sl w 1 (some ⟨b + 1, 0, none⟩) 2 2 ([t, m].map fun n => Value.int .u64 (n : Nat)) := sl_u64s (l := [t, m]) h (by simp)
theorem numbers2 (k : UInt8) (b t m : Nat) (w : World) (h : Sl w 1 (some ⟨b + 1, 0, none⟩) 2 2 ([t, m].map fun n => Value.int .u64 (n : Nat))) (ht : t < 18446744073709551616) (hm : m < 18446744073709551616) :
    Calls Tryz.prog 28 #[.int .u8 (k.toNat : Nat), .slice (some ⟨b + 1, 0, none⟩) 2 2] w fun e w' => ∃ ao d, e = .returned (.slice ao (numB k [t, m]).length d) ∧ Own w' w.heap.size ao d (numB k [t, m]) ∧ Keeps [] w w' :=
  numbers_any k _ 2 [t, m] w h (by simp [ht, hm]) (by simp)

set_option maxRecDepth 100000 in
set_option maxHeartbeats 4000000 in
theorem hardBytes_any (t : Nat) (v : Int) (w : World) (ht : t < 18446744073709551616) (hv : -1 ≤ v ∧ v ≤ 1000) :
    Calls Tryz.prog 32 #[.agg #[.int .u64 (t : Nat), .int .i64 v]] w fun e w' => ∃ ao d, e = .returned (.slice ao (Ev.hard t v).bytes.length d) ∧ Own w' w.heap.size ao d (Ev.hard t v).bytes ∧ Keeps [] w w' := by
  obtain ⟨m, hm⟩ : ∃ m, m = (v + 1).toNat := ⟨_, rfl⟩
  have q1 : IntKind.i64.wrap (v + 1) = v + 1 := IntWalk.i64_in _ (by omega)
  have q2 : IntKind.u64.wrap (v + 1) = (m : Int) := by rw [IntWalk.u64_in _ (by omega)]; omega
  have hm2 : m < 18446744073709551616 := by omega
  have hb : (Ev.hard t v).bytes = numB 1 [t, m] := by simp [Ev.bytes, numB, hm]
  rw [hb]
  clear hm hb
  have hX := Blk.fresh w 47 #[.int .u64 (t : Nat), .int .i64 v]
  have hkX := (Keeps.refl [] w).alloc (.cells #[.int .u64 (t : Nat), .int .i64 v] 47)
  have hkY := hkX.alloc (.cells #[.int .u64 (t : Nat), .int .u64 (m : Nat)] 35)
  have hY := nums2 w.heap.size t m _ (Blk.fresh_at (w.alloc (.cells #[.int .u64 (t : Nat), .int .i64 v] 47)) 35 #[.int .u64 (t : Nat), .int .u64 (m : Nat)] (n := w.heap.size + 1) (by simp))
  have hN := numbers2 1 w.heap.size t m _ hY ht hm2
  have HNN := Lib.hid (And.intro hN hkY)
  have hcX := hX.cell
  clear hN hkY hY hX
  go_enter Tryz.func32, Tryz.ntmps32
  go_wp2_with fail
  refine HNN.out.1.mono ?_
  rintro e w2 ⟨ao, d, rfl, hO, hk⟩
  clear hcX
  go_wp2_with fail
  go_ret
  exact ⟨ao, d, rfl, hO.older (by simp; omega), HNN.out.2.trans hk⟩

theorem torn_nil (w : World) : Calls Tryz.prog 23 #[.nilIface] w fun e w' => e = .returned (.bool false) ∧ w' = w := by
  go_enter Tryz.func23, Tryz.ntmps23
  go_wp2_with fail
  refine (is_nil 22 w).mono ?_
  rintro e w1 ⟨rfl, hw⟩
  obtain rfl := hw
  go_wp2_with fail
  refine (is_nil 21 w).mono ?_
  rintro e w1 ⟨rfl, hw⟩
  obtain rfl := hw
  go_wp2_with fail
  go_ret
  exact ⟨rfl, rfl⟩
theorem torn_short (ev : Value) (w : World) (h : ErrF w ev 22) : Calls Tryz.prog 23 #[ev] w fun e w' => e = .returned (.bool true) ∧ w' = w := by
  rcases h with ⟨_, h0⟩ | ⟨_, g, p, rfl, hB⟩
  · exact absurd h0 (by decide)
  have hI := is_withinD g 22 22 w (hB.cell 1)
  rw [decide_eq_true rfl] at hI
  clear hB
  go_enter Tryz.func23, Tryz.ntmps23
  go_wp2_with fail
  refine hI.mono ?_
  rintro e w1 ⟨rfl, hw⟩
  obtain rfl := hw
  clear hI
  go_wp2_with fail
  go_ret
  exact ⟨rfl, rfl⟩
end Go.Proofs.YtfgmbjdeimallaaGreat
