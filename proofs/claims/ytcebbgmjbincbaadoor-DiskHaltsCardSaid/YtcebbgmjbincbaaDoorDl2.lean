/- DiskHalts: so many calls are done behind a Halt. -/
import Derived.Test.YtcebbgmjbincbaaDoorDl1

namespace Go.Proofs.YtcebbgmjbincbaaDoor
open Go.RowKit Go.Lib

/-- the file of DiskHalts behind i calls that were done -/
def hfs (i : Nat) : List (List UInt8 × Fil) := if i = 0 then [] else [([97], ⟨List.replicate i 120, 0⟩)]
def hst (k i : Nat) : DSt := ⟨hfs (min i k), 1000, min i k, ((k - i : Nat) : Int), decide (k < i)⟩
theorem hfs_used (i : Nat) : usedOf (hfs i) = i := by
  unfold hfs
  split
  · rename_i h; simp [usedOf, h]
  · simp [usedOf]
theorem hfs_got (i : Nat) : (mget [97] (hfs i)).getD ⟨[], 0⟩ = ⟨List.replicate i 120, 0⟩ := by
  unfold hfs
  split
  · rename_i h; simp [mget, h]
  · simp [mget]
theorem hfs_put (i : Nat) : mput [97] ⟨List.replicate i 120 ++ [120], 0⟩ (hfs i) = hfs (i + 1) := by
  have e : List.replicate i (120 : UInt8) ++ [120] = List.replicate (i + 1) 120 := (List.replicate_succ' ..).symm
  unfold hfs
  split
  · rename_i h; subst h; simp [mput]
  · simp [mput, e]
theorem hfs_len (i : Nat) : (hfs i).length ≤ 1 := by unfold hfs; split <;> simp
theorem hst_append (k i : Nat) (hk : k < 20) : (hst k i).append [97] [120] = (hst k (i + 1), if i < k then .ok else .down) := by
  have hr : right [97] = true := by rfl
  rcases (by omega : i < k ∨ i = k ∨ k < i) with h | rfl | h
  · have e1 : min i k = i := by omega
    have e2 : min (i + 1) k = i + 1 := by omega
    have hl := hfs_len i
    simp only [DSt.append, hst, e1, e2, DSt.got, hfs_got, hfs_used, hr]
    rw [if_neg (by simp; omega), if_neg (by simp), if_neg (by simp; omega), if_neg (by omega), if_pos h]
    simp only [DSt.tick, hfs_put, Prod.mk.injEq, DSt.mk.injEq, true_and, and_true]
    refine ⟨?_, ?_⟩
    · rw [if_pos (by omega)]; omega
    · rw [Bool.eq_iff_iff]; simp; omega
  · have hl := hfs_len i
    simp only [DSt.append, hst, DSt.got, hr]
    have e1 : min i i = i := by omega
    have e2 : min (i + 1) i = i := by omega
    simp only [e1, e2, hfs_got, hfs_used]
    rw [if_neg (by simp), if_neg (by simp), if_neg (by simp; omega), if_pos (by omega), if_neg (by omega)]
    simp [DSt.fall]
  · have e1 : min i k = k := by omega
    have e2 : min (i + 1) k = k := by omega
    simp only [DSt.append, hst, e1, e2]
    rw [if_pos (by simpa using h), if_neg (by omega)]
    simp
    omega

/-- the file of DiskHalts, all of it sure -/
def hfs' (i : Nat) : List (List UInt8 × Fil) := if i = 0 then [] else [([97], ⟨List.replicate i 120, i⟩)]
theorem crash1000 (j : Nat) (hj : j < 20) : crashF [1000] 0 ⟨List.replicate j 120, 0⟩ = ⟨List.replicate j 120, j⟩ := by
  have e : (min (max (1000 : Int) 0) (((List.replicate j (120 : UInt8)).length - 0 : Nat) : Int)).toNat = j := by
    rw [List.length_replicate]
    omega
  unfold crashF
  simp only [List.getElem?_cons_zero, e, Nat.zero_add, Fil.mk.injEq, and_true]
  rw [List.take_of_length_le (by simp)]
theorem hst_crash (k i : Nat) (hk : k < 20) : (hst k i).crash [1000] = ⟨hfs' (min i k), 1000, min i k, -1, false⟩ := by
  have hm : min i k < 20 := by omega
  generalize hj : min i k = j at *
  simp only [hst, hj, DSt.crash, DSt.mk.injEq, and_true, hfs, hfs']
  by_cases h0 : j = 0
  · subst h0; rfl
  · rw [if_neg h0, if_neg h0]
    simp only [List.map_cons, List.map_nil, DSt.names, List.mergeSort_singleton]
    rw [show List.idxOf [97] [[(97 : UInt8)]] = 0 by rfl, crash1000 j hm]
theorem hst_last (j : Nat) (hj : j < 20) : (⟨hfs' j, 1000, j, -1, false⟩ : DSt).append [97] [] = (⟨mput [97] ⟨((mget [97] (hfs' j)).getD ⟨[], 0⟩).b, ((mget [97] (hfs' j)).getD ⟨[], 0⟩).sure⟩ (hfs' j), 1000, j + 1, -1, false⟩, .ok) := by
  have hr : right [97] = true := by rfl
  have hl : (hfs' j).length ≤ 1 := by unfold hfs'; split <;> simp
  have hu : usedOf (hfs' j) = j := by
    unfold hfs'
    split
    · rename_i h; simp [usedOf, h]
    · simp [usedOf]
  have hb : ((mget [97] (hfs' j)).getD ⟨[], 0⟩).b.length = j := by
    unfold hfs'
    split
    · rename_i h; simp [mget, h]
    · simp [mget]
  simp only [DSt.append, DSt.got, hr]
  simp [DSt.tick, hu, hb]
  exact ⟨by omega, fun _ => by omega, by omega⟩
theorem hfs'_used (j : Nat) : usedOf (hfs' j) = j := by
  unfold hfs'
  split
  · rename_i h; simp [usedOf, h]
  · simp [usedOf]

set_option maxRecDepth 100000 in
set_option maxHeartbeats 4000000 in
theorem dhalts (n t : Nat) (w : World) (hg : (w).cell? ⟨0, 0, none⟩ = some (.iface 148 (.agg #[.pointer (some ⟨1, 28, none⟩)]))) (hn : n < 256) (ht : t < 256) : Calls Tryd.prog 4 #[.int .u8 (n : Int), .int .u8 (t : Int)] w fun e w' => e = .returned (.bool true) ∧ Keeps [] w w' := by
  obtain ⟨k, hk⟩ : ∃ k, k = n % 20 := ⟨_, rfl⟩
  obtain ⟨T, hT⟩ : ∃ T, T = t % 30 := ⟨_, rfl⟩
  have k1 : k < 20 := by omega
  have T1 : T < 30 := by omega
  have r1 : (n : Int).tmod 20 = (k : Int) := by rw [Int.tmod_eq_emod_of_nonneg (by omega)]; omega
  have r2 : (t : Int).tmod 30 = (T : Int) := by rw [Int.tmod_eq_emod_of_nonneg (by omega)]; omega
  have HKT := Lib.hid (And.intro hk hT)
  clear hk hT
  go_enter Tryd.func4, Tryd.ntmps4
  go_wp2_with fail
  refine (dknown w hg).mono ?_
  rintro e w1 ⟨rfl, hk1⟩
  go_wp2_with fail
  refine (dnew 1000 (by omega) w1).mono ?_
  rintro e w2 ⟨db, L, rfl, hD, hk2, hL⟩
  go_wp2_with fail
  refine (dhalt hD (k : Int) (by omega)).mono ?_
  rintro e w3 ⟨rfl, hD3, hk3⟩
  rw [show ({ (⟨[], (1000 : Int).toNat, 0, -1, false⟩ : DSt) with halt := max (k : Int) (-1) } : DSt) = hst k 0 by simp only [hst, hfs]; simp; omega] at hD3
  have hk03 : Keeps [] w w3 := (hk1.trans hk2).step hk3 (fun x hx => .inr (Nat.le_trans hk1.size (hL x hx)))
  have hL3 : ∀ x ∈ L, w.heap.size ≤ x := fun x hx => Nat.le_trans hk1.size (hL x hx)
  have HD := Lib.hid (And.intro hD3 (And.intro hk03 hL3))
  clear hD hD3 hk1 hk2 hk3 hk03 hL hL3
  go_wp2_with fail
  go_loopw [7] (fun v wr => ∃ (i : Nat) (L' : List Nat), v = .int .i64 (i : Int) ∧ i ≤ T ∧ Disk wr L' db (hst k i) ∧ Keeps [] w wr ∧ ∀ x ∈ L', w.heap.size ≤ x) (fun v _ => T - (intOf v).toNat)
  case atStart => exact ⟨0, L, rfl, Nat.zero_le _, HD.out.1, HD.out.2.1, HD.out.2.2⟩
  case round =>
    obtain ⟨i, L', rfl, hiT, hDr, hkr, hLr⟩ := hrel
    rcases (by omega : i = T ∨ i < T) with rfl | hlt
    · have m1 : ¬ ((i : Int) < (i : Int)) := by omega
      obtain ⟨mb, fl, hA⟩ := hDr
      obtain ⟨dn, hdn⟩ : ∃ dn, dn = min i k := ⟨_, rfl⟩
      have hC := dcount hA
      have hU := dused hA
      rw [show (hst k i).count = dn from hdn.symm] at hC
      rw [show usedOf (hst k i).fs = dn by show usedOf (hfs (min i k)) = dn; rw [hfs_used, hdn]] at hU
      have HC := Lib.hid (And.intro hC hU)
      have HDN := Lib.hid hdn
      clear hC hU
      have hmin : (min (k : Int) (i : Int)) = (dn : Int) := by omega
      clear hdn
      have hdk : dn < 20 := by have := HDN.out; omega
      have q1 : IntKind.i64.wrap ((dn : Int) + 1) = dn + 1 := IntWalk.i64_in _ (by omega)
      go_wp2_with fail
      refine HC.out.1.mono ?_
      rintro e w4 ⟨rfl, hw⟩
      obtain rfl := hw.symm
      go_wp2_with fail
      refine HC.out.2.mono ?_
      rintro e w4 ⟨rfl, hw⟩
      obtain rfl := hw.symm
      go_wp2_with fail
      have hkA := (Keeps.refl [] wr).alloc (.cells #[.int .i64 1000] 3)
      have hS : Sl (wr.alloc (.cells #[.int .i64 1000] 3)) 1 (some ⟨wr.heap.size, 0, none⟩) 1 1 ([1000].map (Value.int .i64)) := Sl.of_blk (n := 1) (sz := 1) (Blk.fresh wr 3 #[.int .i64 1000]) rfl (by decide) (fun u hu => by simp at hu; subst hu; rfl)
      have hDA : Disk (wr.alloc (.cells #[.int .i64 1000] 3)) L' db (hst k i) := ⟨mb, fl, hA.keep hkA (by simp)⟩
      refine (dcrash hDA [1000] hS (fun ad e _ hx => by cases e; have := hA.lt _ hx; simp at this)).mono ?_
      rintro e w5 ⟨rfl, hD5, hk5⟩
      rw [hst_crash k i k1, ← HDN.out] at hD5
      have hk05 := (hkr.trans hkA).step hk5 (fun x hx => .inr (hLr x hx))
      obtain ⟨mb5, fl5, hA5⟩ := hD5
      have hU5 := dused hA5
      rw [show usedOf (⟨hfs' dn, 1000, dn, -1, false⟩ : DSt).fs = dn from hfs'_used dn] at hU5
      clear hkA hS hDA hA HC hkr hk5
      go_wp2_with fail
      refine hU5.mono ?_
      rintro e w6 ⟨rfl, hw⟩
      obtain rfl := hw.symm
      go_wp2_with fail
      refine (dappend ⟨mb5, fl5, hA5⟩ [97] [] (by decide) (Sl.none _ _) (by decide) (by simp) (by simp; omega)).mono ?_
      rintro e w7 ⟨ev, L7, rfl, hE, hD7, hk7, hL7⟩
      rw [hst_last dn hdk] at hE hD7
      obtain rfl : ev = .nilIface := hE
      obtain ⟨mb7, fl7, hA7⟩ := hD7
      have hC7 := dcount hA7
      have hk07 := hk05.step hk7 (fun x hx => .inr (hLr x hx))
      clear hA7 hA5 hU5 hk7 hk05
      go_wp2_with fail
      refine hC7.mono ?_
      rintro e w8 ⟨rfl, hw⟩
      obtain rfl := hw.symm
      clear hC7
      go_wp2_with fail
      go_ret
      exact ⟨rfl, hk07⟩
    · have m1 : (i : Int) < (T : Int) := by omega
      have hap := hst_append k i k1
      have hcnt : (hst k i).count < 4611686018427387904 := by show min i k < _; omega
      have q2 : IntKind.i64.wrap ((i : Int) + 1) = i + 1 := IntWalk.i64_in _ (by omega)
      have q1 := Lib.run_convert_bytes_const (P := Tryd.prog) wr 22 5 #[.int .u8 120] 1 1 Tryd.underlying22 Tryd.underlying5
      go_wp2_with fail
      refine (dappend_new hDr [97] [120] (by decide) (by decide) hcnt (1, 2)).mono ?_
      rintro e w4 ⟨ev, L4, rfl, hE, hD4, hk4, hL4⟩
      rw [hap] at hE hD4
      have hk04 := hkr.step hk4 (fun x hx => .inr (hLr x hx))
      have hL04 : ∀ x ∈ L4, w.heap.size ≤ x := fun x hx => (hL4 x hx).elim (hLr x) (fun h => Nat.le_trans hkr.size h)
      have HE := Lib.hid (And.intro hD4 (And.intro hk04 hL04))
      clear hap q1 hDr hkr hk4 hL4
      by_cases hik : i < k
      · have m2 : (i : Int) < (k : Int) := by omega
        rw [if_pos hik] at hE
        obtain rfl : ev = .nilIface := hE
        clear hD4 hk04 hL04
        go_wp2_with fail
        go_roundw
        case rel => exact ⟨i + 1, L4, by simp, by omega, HE.out.1, HE.out.2.1, HE.out.2.2⟩
        case measure => simp [intOf]; omega
      · have m2 : ¬ ((i : Int) < (k : Int)) := by omega
        rw [if_neg hik] at hE
        have hg4 := hk04.cellSome hg (by simp)
        have hC := class_de hg4 hE
        obtain rfl : ev = .iface 98 (.int .i64 32) := hE
        have HC := Lib.hid hC
        clear hC hg4 hD4 hk04 hL04
        go_wp2_with fail
        refine HC.out.mono ?_
        rintro e w5 ⟨rfl, hk5⟩
        go_wp2_with fail
        go_roundw
        case rel => exact ⟨i + 1, L4, by simp, by omega, HE.out.1.keep0 hk5, HE.out.2.1.trans hk5, HE.out.2.2⟩
        case measure => simp [intOf]; omega
end Go.Proofs.YtcebbgmjbincbaaDoor
