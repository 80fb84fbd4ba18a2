/- The document's rows: plain, Is, PutRow. -/
import Derived.Test.YtcaahgjepkcenaaDoorWf
import Derived.Test.YtcaahgjepkcenaaDoorWx

namespace Go.Proofs.YtcaahgjepkcenaaDoor
open Go.RowKit Go.Lib

set_option maxRecDepth 100000 in
theorem plain_any (s : ByteArray) (w : World) (hs : s.size ≤ 1000000) :
    Calls Tryd.prog 81 #[.string s] w fun e w' => e = .returned (.bool (decide ((0 : UInt8) ∉ s.data.toList))) ∧ w' = w := by
  have hsl : s.data.toList.length = s.size := by rw [Array.length_toList]; rfl
  obtain ⟨q, hq⟩ : ∃ q, q = decide ((0 : UInt8) ∉ s.data.toList) := ⟨_, rfl⟩
  rw [← hq]
  have HQ := Lib.hid hq
  have HS := Lib.hid hsl
  clear hq hsl
  go_enter Tryd.func81, Tryd.ntmps81
  go_wp2_with fail
  go_loopw [3] (fun v wr => ∃ k : Nat, v = .int .i64 (k : Int) ∧ k ≤ s.size ∧ (∀ j, j < k → s.data.toList[j]? ≠ some 0) ∧ wr = w) (fun v _ => s.size - (intOf v).toNat)
  case atStart => exact ⟨0, rfl, by omega, fun j hj => by omega, rfl⟩
  case round =>
    obtain ⟨k, rfl, hk, hno, rfl⟩ := hrel
    have HN := Lib.hid hno
    clear hno
    by_cases hkl : k < s.size
    rotate_left
    · have n1 : ¬ ((k : Int) < (s.size : Int)) := by omega
      have hqt : q = true := by
        rw [HQ.out]
        simp only [decide_eq_true_eq]
        intro hx
        obtain ⟨j, hj⟩ := List.getElem?_of_mem hx
        have hjl := (List.getElem?_eq_some_iff.1 hj).1
        exact absurd hj (HN.out j (by have := HS.out; omega))
      subst hqt
      go_wp2_with fail
      go_ret
      exact ⟨rfl, rfl⟩
    have n1 : (k : Int) < (s.size : Int) := by omega
    have s1 : IntKind.i64.wrap ((k : Int) + 1) = k + 1 := IntWalk.i64_in _ (by omega)
    have hget : s.data.toList[k]? = some s[k] := by rw [Array.getElem?_toList, Array.getElem?_eq_getElem hkl]; rfl
    have HG := Lib.hid hget
    clear hget
    by_cases hz : s[k] = 0
    · have hqf : q = false := by
        rw [HQ.out]
        simp only [decide_eq_false_iff_not, Decidable.not_not]
        rw [← hz]
        exact List.mem_of_getElem? HG.out
      subst hqf
      have n2 : ((s[k].toNat : Int) == 0) = true := by rw [hz]; rfl
      clear hz
      go_wp2_with fail
      go_ret
      exact ⟨rfl, rfl⟩
    · have n2 : ((s[k].toNat : Int) == 0) = false := by
        simp only [beq_eq_false_iff_ne, ne_eq]
        intro h
        exact hz (UInt8.toNat_inj.1 (by simp; omega))
      have HZ := Lib.hid hz
      clear hz
      go_wp2_with fail
      go_roundw
      case rel => exact ⟨k + 1, by simp, by omega, fun j hj => by
        rcases Nat.lt_or_ge j k with h1 | h1
        · exact HN.out j h1
        · obtain rfl : j = k := by omega
          rw [HG.out]
          intro e
          exact HZ.out (Option.some.inj e), by simp⟩
      case measure => simp [intOf]; omega

set_option maxRecDepth 100000 in
set_option maxHeartbeats 1000000 in
theorem is_any (v : Va) (w : World) :
    Calls Tryd.prog 52 #[.agg v.cells] w fun e w' => e = .returned (.bool (mayV v)) ∧ Keeps [] w w' := by
  obtain ⟨k, n, s⟩ := v
  generalize hq : mayV ⟨k, n, s⟩ = q
  unfold mayV at hq
  have hk0 := (Keeps.refl [] w).alloc (.cells (Va.cells ⟨k, n, s⟩) 95)
  try simp only at hq
  by_cases h0 : k = 0
  · rw [if_pos h0] at hq
    subst h0
    by_cases hn : n = 0
    · subst hn
      go_enter Tryd.func52, Tryd.ntmps52
      go_wp2_with fail
      go_ret
      exact ⟨by rw [← hq]; simp, hk0⟩
    · have n1 : (n == 0) = false := by simpa using hn
      have HQ := Lib.hid hq
      have HN := Lib.hid hn
      clear hq hn
      go_enter Tryd.func52, Tryd.ntmps52
      go_wp2_with fail
      go_ret
      exact ⟨by rw [← HQ.out]; simp [HN.out], hk0⟩
  by_cases h1 : k = 1
  · rw [if_neg h0, if_pos h1] at hq
    subst h1
    by_cases hn : n = 0
    · subst hn
      go_enter Tryd.func52, Tryd.ntmps52
      go_wp2_with fail
      go_ret
      exact ⟨by rw [← hq]; simp, hk0⟩
    by_cases hn1 : n = 1
    · subst hn1
      go_enter Tryd.func52, Tryd.ntmps52
      go_wp2_with fail
      go_ret
      exact ⟨by rw [← hq]; simp, hk0⟩
    · have n1 : (n == 0) = false := by simpa using hn
      have n2 : (n == 1) = false := by simpa using hn1
      have HQ := Lib.hid hq
      have HN := Lib.hid hn
      have HM := Lib.hid hn1
      clear hq hn hn1
      go_enter Tryd.func52, Tryd.ntmps52
      go_wp2_with fail
      go_ret
      exact ⟨by rw [← HQ.out]; simp [HN.out, HM.out], hk0⟩
  by_cases h2 : k = 2
  · rw [if_neg h0, if_neg h1, if_pos h2] at hq
    subst h2
    go_enter Tryd.func52, Tryd.ntmps52
    go_wp2_with fail
    go_ret
    exact ⟨by rw [← hq]; rfl, hk0⟩
  by_cases h3 : k = 3
  · rw [if_neg h0, if_neg h1, if_neg h2, if_pos h3] at hq
    subst h3
    clear h0 h1 h2
    by_cases hn : n = 0
    · subst hn
      by_cases hs : s.size ≤ 40
      · have HQ := Lib.hid hq
        clear hq
        have n3 : (s.size : Int) ≤ 40 := by omega
        have hsm : s.size ≤ 1000000 := by omega
        go_enter Tryd.func52, Tryd.ntmps52
        go_wp2_with fail
        refine (plain_any s _ hsm).mono ?_
        rintro e w' ⟨rfl, rfl⟩
        go_wp2_with fail
        go_ret
        exact ⟨by rw [← HQ.out]; simp [hs], hk0⟩
      · have HQ := Lib.hid hq
        have HS := Lib.hid hs
        clear hq hs
        have n3 : ¬ ((s.size : Int) ≤ 40) := by have := HS.out; omega
        go_enter Tryd.func52, Tryd.ntmps52
        go_wp2_with fail
        go_ret
        exact ⟨by rw [← HQ.out]; simp [HS.out], hk0⟩
    · have n1 : (n == 0) = false := by simpa using hn
      have HQ := Lib.hid hq
      have HN := Lib.hid hn
      clear hq hn
      go_enter Tryd.func52, Tryd.ntmps52
      go_wp2_with fail
      go_ret
      exact ⟨by rw [← HQ.out]; simp [HN.out], hk0⟩
  · rw [if_neg h0, if_neg h1, if_neg h2, if_neg h3] at hq
    have n0 : (k == 0) = false := by simpa using h0
    have n1 : (k == 1) = false := by simpa using h1
    have n2 : (k == 2) = false := by simpa using h2
    have n3 : (k == 3) = false := by simpa using h3
    go_enter Tryd.func52, Tryd.ntmps52
    have HQ := Lib.hid hq
    clear h0 h1 h2 h3 hq
    go_wp2_with fail
    go_ret
    exact ⟨by rw [← HQ.out]; rfl, hk0⟩

set_option maxRecDepth 100000 in
set_option maxHeartbeats 8000000 in
theorem putRowR_any (ao : Option Addr) (c : Nat) (l : List Va) (w : World) (h : Rv w ao c l) (hi' : ∀ v ∈ l, (Lit.int .i64 v.int).wf = true) :
    Calls Tryd.prog 24 #[.slice ao l.length c] w fun e w' => ∃ bo d, e = .returned (.tuple #[.slice bo (if rowOk l then putRow l else []).length d, .int .i64 (if rowOk l then 0 else 20)]) ∧ Own w' w.heap.size bo d (if rowOk l then putRow l else []) ∧ Keeps [] w w' := by
  obtain ⟨i, z, hi, hz, hsz, hby, hzc⟩ := infoB
  generalize hres : (if rowOk l then putRow l else []) = res
  generalize hcls : (if rowOk l then (0 : Int) else 20) = cls
  unfold rowOk at hres hcls
  by_cases h64 : 64 < l.length
  · have hd : decide (l.length ≤ 64) = false := by simp; omega
    rw [hd, Bool.false_and] at hres hcls
    simp only [Bool.false_eq_true, if_false] at hres hcls
    subst hres hcls
    have n1 : (64 : Int) < (l.length : Int) := by omega
    go_enter Tryd.func24, Tryd.ntmps24
    go_wp2_with fail
    go_ret2
    exact ⟨none, 0, rfl, Own.nil _ _, Keeps.refl _ _⟩
  · have hd : decide (l.length ≤ 64) = true := by simp; omega
    rw [hd, Bool.true_and] at hres hcls
    have n1 : ¬ ((64 : Int) < (l.length : Int)) := by omega
    have q1 : IntKind.u64.wrap (l.length : Int) = l.length := IntWalk.u64_in _ (by omega)
    have HI := Lib.hid hi'
    clear hi' hd
    go_enter Tryd.func24, Tryd.ntmps24
    go_wp2_with fail
    refine (putUintR l.length w (by omega)).mono ?_
    rintro e w1 ⟨bo, d, rfl, hO1, hk1⟩
    go_wp2_with fail
    go_loopw [4, 5] (fun v j wr => ∃ (k : Nat) (bo : Option Addr) (d : Nat) (b : List UInt8), v = .slice bo b.length d ∧ j = .int .i64 (k : Int) ∧ k ≤ l.length ∧ b = uvarint l.length ++ putVs (l.take k) ∧ (∀ v ∈ l.take k, mayV v = true) ∧ Own wr w.heap.size bo d b ∧ Keeps [] w wr) (fun _ j _ => l.length - (intOf j).toNat)
    case atStart => exact ⟨0, bo, d, uvarint l.length, rfl, rfl, by omega, by simp [putVs], by simp, hO1, hk1⟩
    case round =>
      obtain ⟨k, bo, d, b, rfl, rfl, hk, hb, hmay, hO, hkr⟩ := hrel
      clear hO1 hk1
      by_cases hkl : k = l.length
      · subst hkl
        rw [List.take_length] at hb hmay
        have hall : l.all mayV = true := by rw [List.all_eq_true]; exact hmay
        rw [hall] at hres hcls
        simp only [if_true] at hres hcls
        have hbr : b = res := by rw [hb, ← hres]; rfl
        clear hb hmay hall hres
        subst hbr hcls
        go_wp2_with fail
        go_ret2
        exact ⟨bo, d, rfl, hO, hkr⟩
      have hlt : k < l.length := by omega
      have hlti : (k : Int) < (l.length : Int) := by omega
      have s2 : IntKind.i64.wrap ((k : Int) + 1) = k + 1 := IntWalk.i64_in _ (by omega)
      have hv := List.getElem?_eq_getElem hlt
      generalize hvv : l[k] = v at hv
      have hvm : v ∈ l := by rw [← hvv]; exact List.getElem_mem _
      have hwf := HI.out v hvm
      have htk : l.take (k + 1) = l.take k ++ [v] := by rw [List.take_add_one, hv]; rfl
      obtain ⟨bb, o, rfl, c0, c1, c2⟩ := Rv.at (h.keep0 hkr) hv
      clear hvv
      have HP := Lib.hid fun w' => is_any v w'
      have HV := Lib.hid hv
      have HT := Lib.hid htk
      have HM := Lib.hid hmay
      have HB := Lib.hid hb
      clear htk hmay hb hv
      go_upto_region 7 with (fail)
      go_wp2_with fail
      refine (HP.out _).mono ?_
      rintro e w3 ⟨rfl, hk3⟩
      have hO3 := hO.keep0 hk3
      have hk03 := hkr.trans hk3
      clear hk3 HP hO hkr c0 c1 c2
      cases hm : mayV v with
      | false =>
        have hall : l.all mayV = false := by rw [List.all_eq_false]; exact ⟨v, hvm, by simp [hm]⟩
        rw [hall] at hres hcls
        simp only [Bool.false_eq_true, if_false] at hres hcls
        subst hres hcls
        clear hm hall
        go_wp2_with fail
        go_ret2
        exact ⟨none, 0, rfl, Own.nil _ _, hk03⟩
      | true =>
        have hmay' : ∀ x ∈ l.take (k + 1), mayV x = true := by
          intro x hx
          rw [HT.out, List.mem_append, List.mem_singleton] at hx
          rcases hx with hx | rfl
          · exact HM.out x hx
          · exact hm
        have hlb : b.length ≤ 10000 := by
          rw [HB.out, List.length_append]
          have h1 := uvarint_length64 (x := l.length) (by omega)
          have h2 := putVs_length (l := l.take k) HM.out (fun x hx => HI.out x (List.mem_of_mem_take hx))
          have h3 : (l.take k).length ≤ 64 := by simp; omega
          omega
        have hend : ∀ B, B = b ++ putV v → B = uvarint l.length ++ putVs (l.take (k + 1)) := by
          rintro B rfl
          rw [HT.out, putVs_append, putVs_one, ← List.append_assoc, ← HB.out]
        have HE := Lib.hid hend
        have HY := Lib.hid hmay'
        have hkk := mayV_kind hm
        have hbo := fun h => mayV_bool hm h
        have htx := fun h => mayV_text hm h
        clear hend hmay' hm HT HM HB hres hcls
        obtain ⟨vk, vi, vt⟩ := v
        have cells : ∀ (W : World), Keeps [] w W → W.cell? ⟨bb, o + k * 3, none⟩ = some (.int .i64 vk) ∧ W.cell? ⟨bb, o + k * 3 + 1, none⟩ = some (.int .i64 vi) ∧ W.cell? ⟨bb, o + k * 3 + 2, none⟩ = some (.string vt) := by
          intro W hW
          obtain ⟨bb', o', he, d0, d1, d2⟩ := Rv.at (h.keep0 hW) HV.out
          cases he
          exact ⟨d0, d1, d2⟩
        have CE := Lib.hid cells
        clear cells
        simp only at hkk hbo htx hwf
        obtain ⟨kb, hkb⟩ : ∃ kb : UInt8, kb = UInt8.ofNat vk.toNat := ⟨_, rfl⟩
        have qk : IntKind.u8.wrap vk = ((kb.toNat : Nat) : Int) := by
          rw [hkb]
          rcases hkk with rfl | rfl | rfl | rfl <;> decide
        have HKB := Lib.hid hkb
        clear hkb
        have hO4 := hO3.keep0 ((Keeps.refl [] w3).alloc (.cells #[.int .u8 kb.toNat] 5))
        obtain ⟨c0, c1, c2⟩ := CE.out _ hk03
        have hk04 := hk03.alloc (.cells #[.int .u8 kb.toNat] 5)
        go_upto_region 10 with (at_builtin; refine wpList_append_by _ rfl _ _ 24 24 rfl (w.heap.size) 5 i z 1 1 Tryd.underlying24 hi hz hsz hby hzc (bo) _ (d) _ rfl hO4 _ rfl 1 _ ((rb1 (x := kb) (Blk.fresh _ _ _)).src Tryd.underlying24) (by unfold maxLen; omega) (by omega) (by have := hk03.size; simp; omega) ?_; intro bo1 d1 w5 hO' hk' hb')
        have hO5 := Own.of hO' (bys_append b [kb]).symm
        have hk05 := hk04.own hk' hO4
        have hlen1 : b.length + 1 = (b ++ [kb]).length := by simp
        rw [hlen1]
        clear hO' hk' hb' hO4 hk04 hO3 hk03 c0 c1 c2 qk
        obtain ⟨c0, c1, c2⟩ := CE.out _ hk05
        generalize hb1 : b ++ [kb] = b1 at *
        have hl1 : b1.length ≤ 10001 := by omega
        rcases hkk with rfl | rfl | rfl | rfl
        · clear hbo htx
          go_wp2_with fail
          go_roundw
          case rel => exact ⟨k + 1, bo1, d1, b1, by simp, by simp, by omega, HE.out _ (by rw [← hb1, HKB.out]; simp [putV]), HY.out, hO5, hk05⟩
          case measure => simp [intOf]; omega
        · have hkb := HKB.out
          obtain ⟨x, hx, hxb⟩ : ∃ x : UInt8, IntKind.u8.wrap vi = ((x.toNat : Nat) : Int) ∧ x = UInt8.ofNat vi.toNat := by
            rcases hbo rfl with rfl | rfl
            · exact ⟨0, by decide, rfl⟩
            · exact ⟨1, by decide, rfl⟩
          clear hbo htx HKB
          have hfin : b1 ++ [x] = b ++ putV ⟨1, vi, vt⟩ := by rw [← hb1, hkb, hxb]; simp [putV]
          clear hxb hkb hb1
          have hO6 := hO5.keep0 ((Keeps.refl [] w5).alloc (.cells #[.int .u8 x.toNat] 5))
          go_upto_region 6 with (at_builtin; refine wpList_append_by _ rfl _ _ 24 24 rfl (w.heap.size) 5 i z 1 1 Tryd.underlying24 hi hz hsz hby hzc (bo1) _ (d1) _ rfl hO6 _ rfl 1 _ ((rb1 (x := x) (Blk.fresh _ _ _)).src Tryd.underlying24) (by unfold maxLen; omega) (by omega) (by have := hk05.size; simp; omega) ?_; intro bo2 d2 w6 hO' hk' hb')
          have hO7 := Own.of hO' (bys_append b1 [x]).symm
          have hk06 := (hk05.alloc _).own hk' hO6
          go_wp2_with fail
          go_roundw
          case rel => exact ⟨k + 1, bo2, d2, b1 ++ [x], by simp, by simp, by omega, HE.out _ hfin, HY.out, hO7, hk06⟩
          case measure => simp [intOf]; omega
        · have hkb := HKB.out
          clear hbo htx HKB
          have P := putIntR vi w5 hwf
          have hzl := zigzag_lt' hwf
          have hul := uvarint_length64 hzl
          have hfin : b1 ++ uvarint (zigzag vi) = b ++ putV ⟨2, vi, vt⟩ := by rw [← hb1, hkb]; simp [putV]
          generalize uvarint (zigzag vi) = ys at *
          clear hkb hb1
          go_wp2_with fail
          refine P.mono ?_
          rintro e w6 ⟨co, cc, rfl, hC, hk6⟩
          have hO6 := hO5.keep0 hk6
          have hk06 := hk05.trans hk6
          clear P c0 c1 c2
          go_upto_region 6 with (at_builtin; refine wpList_append_by _ rfl _ _ 24 24 rfl (w.heap.size) 5 i z 1 1 Tryd.underlying24 hi hz hsz hby hzc (bo1) _ (d1) _ rfl hO6 _ rfl ys.length _ (hC.rb.src Tryd.underlying24) (by unfold maxLen; omega) (by omega) hk06.size ?_; intro bo2 d2 w7 hO' hk' hb')
          have hO7 := Own.of hO' (bys_append b1 ys).symm
          have hk07 := hk06.own hk' hO6
          go_wp2_with fail
          go_roundw
          case rel => exact ⟨k + 1, bo2, d2, b1 ++ ys, by simp, by simp, by omega, HE.out _ hfin, HY.out, hO7, hk07⟩
          case measure => simp [intOf]; omega
        · have ht3 := (htx rfl).2.1
          have hkb := HKB.out
          clear hbo htx HKB
          have P := putTextR vt w5 (by omega)
          have hul := uvarint_length64 (x := vt.size) (by omega)
          have hsl : vt.data.toList.length = vt.size := by rw [Array.length_toList]; rfl
          have hyl : (uvarint vt.size ++ vt.data.toList).length ≤ 50 := by rw [List.length_append]; omega
          have hfin : b1 ++ (uvarint vt.size ++ vt.data.toList) = b ++ putV ⟨3, vi, vt⟩ := by rw [← hb1, hkb]; simp [putV]
          generalize uvarint vt.size ++ vt.data.toList = ys at *
          clear hkb hb1 hul hsl
          go_wp2_with fail
          refine P.mono ?_
          rintro e w6 ⟨co, cc, rfl, hC, hk6⟩
          have hO6 := hO5.keep0 hk6
          have hk06 := hk05.trans hk6
          clear P c0 c1 c2
          go_upto_region 6 with (at_builtin; refine wpList_append_by _ rfl _ _ 24 24 rfl (w.heap.size) 5 i z 1 1 Tryd.underlying24 hi hz hsz hby hzc (bo1) _ (d1) _ rfl hO6 _ rfl ys.length _ (hC.rb.src Tryd.underlying24) (by unfold maxLen; omega) (by omega) hk06.size ?_; intro bo2 d2 w7 hO' hk' hb')
          have hO7 := Own.of hO' (bys_append b1 ys).symm
          have hk07 := hk06.own hk' hO6
          go_wp2_with fail
          go_roundw
          case rel => exact ⟨k + 1, bo2, d2, b1 ++ ys, by simp, by simp, by omega, HE.out _ hfin, HY.out, hO7, hk07⟩
          case measure => simp [intOf]; omega
end Go.Proofs.YtcaahgjepkcenaaDoor
