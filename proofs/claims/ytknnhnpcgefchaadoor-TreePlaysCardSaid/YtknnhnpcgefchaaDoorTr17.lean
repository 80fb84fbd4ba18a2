/- A tree's nodes: next. -/
import Derived.Test.YtknnhnpcgefchaaDoorTr11

namespace Go.Proofs.YtknnhnpcgefchaaDoor
open Go.RowKit Go.Lib

/-- what next tells: the least pair from a key on, or above it -/
def NextPost (w : World) (F : Nat → Prop) (k : Bs) (ab : Bool) (l : List KV) (e : Ending) (w' : World) : Prop :=
  Keeps [] w w' ∧ ((nxt k ab l = none ∧ e = .returned (.tuple #[.agg #[.slice none 0 0, .slice none 0 0], .bool false])) ∨ ∃ q : Pr, nxt k ab l = some (q.k, q.v) ∧ PrOk w' F q ∧ e = .returned (.tuple #[.agg q.cells, .bool true]))
theorem nxt_at {l : List KV} {k : Bs} {ab : Bool} {r : Nat} (hs : Srt l) (e2 : frm k l = l.drop r) : nxt k ab l = l[r + if has k l && ab then 1 else 0]? := by
  have hh : hi k l = l.drop (r + if has k l then 1 else 0) := by
    rcases hs.frm_cases (k := k) with ⟨g1, g2⟩ | ⟨v', g1, g2, _⟩
    · rw [g1, ← g2, e2]; simp
    · rw [g1]
      have : l.drop (r + 1) = (l.drop r).drop 1 := by rw [List.drop_drop]
      rw [if_pos rfl, this, ← e2, g2]
      rfl
  unfold nxt
  cases ab
  · simp only [Bool.and_false, Bool.false_eq_true, if_false]
    rw [e2, List.head?_drop]
    rfl
  · simp only [Bool.and_true, if_true]
    rw [hh, List.head?_drop]

set_option maxRecDepth 100000 in
set_option maxHeartbeats 4000000 in
theorem nnext0 {w : World} {F : Nat → Prop} {m M b : Nat} {f : Bs} {l : List KV} {ko : Option Addr} {kc : Nat} {k : Bs} {ab : Bool} (h : NdAt w F 0 m M b f l) (hM : M ≤ 100) (hk : Rb w ko kc k) :
    Calls Tryd.prog 23 #[.pointer (some ⟨b, 0, none⟩), .slice ko k.length kc, .bool ab] w fun e w' => NextPost w F k ab l e w' := by
  obtain ⟨fo, fc, po, pc, co, cc, ps, hB, hb, hf, hff, hS, hfps, hS0, hps, hkv, hsr, hge, hm0, hM2, hfl⟩ := h
  have hX := Blk.fresh w 64 #[.slice none 0 0, .slice none 0 0]
  have hk0 := (Keeps.refl [] w).alloc (.cells #[.slice none 0 0, .slice none 0 0] 64)
  go_enter Tryd.func23, Tryd.ntmps23
  go_upto_region 1 with (fail)
  generalize hw1 : World.alloc w _ = w1 at *
  generalize hxs : w.heap.size = xb at *
  have hB1 := hB.keep hk0 (by simp)
  have hlf := nleaf hB1
  go_wp2_with fail
  refine hlf.mono ?_
  rintro e w2 ⟨rfl, hw⟩
  obtain rfl := hw.symm
  clear hlf
  have hl := hB1.lt
  have c1 : w1.cell? ⟨b, 1, none⟩ = some (.slice po ps.length pc) := hB1.cell 1
  go_wp2_with fail
  refine (nat_at (hS.keep0 hk0) (fun q hq => (hps q hq).keep hk0 (by simp)) (by rw [hkv]; exact hsr) (by omega) (hk.keep0 hk0)).mono ?_
  rintro e w2 ⟨r, rfl, hr, e1, e2, hk2⟩
  rw [hkv] at e2 ⊢
  have hnx := nxt_at (ab := ab) hsr e2
  obtain ⟨is, his⟩ : ∃ is, is = has k l := ⟨_, rfl⟩
  rw [← his] at hnx ⊢
  have HNX := Lib.hid hnx
  have hrl : is = true → r < ps.length := fun h => by
    rw [his] at h
    rcases hsr.frm_cases (k := k) with ⟨g1, _⟩ | ⟨v', g1, g2, _⟩
    · rw [g1] at h; cases h
    · rw [e2] at g2
      have := congrArg List.length g2
      rw [List.length_drop, ← hkv, kvs_length] at this
      simp at this
      omega
  clear hnx e1 e2 his
  replace c1 := hk2.cellSome c1 (by simp)
  have hX2 := hX.keep hk2 (by simp)
  have hk02 := hk0.trans hk2
  have hcx := hX2.cell
  have hfx := hX2.free
  have hlx := hX2.lt
  obtain ⟨t, ht⟩ : ∃ t, t = r + if is && ab then 1 else 0 := ⟨_, rfl⟩
  have HT := Lib.hid ht
  have htl : t ≤ ps.length := by
    cases is
    · simp at ht; omega
    · have := hrl rfl
      cases ab <;> simp at ht <;> omega
  have q5 : IntKind.i64.wrap ((r : Int) + 1) = (r : Int) + 1 := IntWalk.i64_in _ (by omega)
  have fin : t = ps.length ∨ t < ps.length := by omega
  clear ht
  by_cases hb2 : (is && ab) = true
  · obtain ⟨rfl, rfl⟩ : is = true ∧ ab = true := by simpa using hb2
    have ht1 : (r : Int) + 1 = (t : Int) := by have := HT.out; simp at this; omega
    clear hb2
    rcases fin with hft | hft
    · have n1 : (t : Int) = (ps.length : Int) := by omega
      go_wp2_with fail
      have hZ : Blk ((w2.setCell ⟨xb, 0, none⟩ (.slice none 0 0)).setCell ⟨xb, 1, none⟩ (.slice none 0 0)) xb 64 #[.slice none 0 0, .slice none 0 0] := ((hX2.put 0 (.slice none 0 0)).put 1 (.slice none 0 0)).eq (by simp)
      have hkz : Keeps [] w ((w2.setCell ⟨xb, 0, none⟩ (.slice none 0 0)).setCell ⟨xb, 1, none⟩ (.slice none 0 0)) := (hk02.set (p := ⟨xb, 0, none⟩) (.inr (Nat.le_of_eq hxs)) _).set (p := ⟨xb, 1, none⟩) (.inr (Nat.le_of_eq hxs)) _
      refine bodyPost_ret (results_ct rfl rfl hZ Tryd.underlying64 rfl Tryd.sizePr) rfl ?_
      refine ⟨hkz, .inl ⟨?_, rfl⟩⟩
      rw [HNX.out, ← HT.out, ← hkv]
      exact List.getElem?_eq_none (by rw [kvs_length]; omega)
    · have n1 : (t : Int) < (ps.length : Int) := by omega
      have n2 : ¬ ((t : Int) = (ps.length : Int)) := by omega
      have n3 : (0 : Int) ≤ (t : Int) := by omega
      obtain ⟨q, hq⟩ : ∃ q, ps[t]? = some q := ⟨_, List.getElem?_eq_getElem hft⟩
      have hqm := List.mem_of_getElem? hq
      have hcap := hS.cap
      obtain ⟨bb, o, rfl⟩ := hS.at (by omega)
      have hrun : ∀ j v, q.cells.toList[j]? = some v → w2.cell? ⟨bb, o + t * 2 + j, none⟩ = some v := fun j v hj => by
        have := (hS.keep0 hk02).cells rfl _ _ (prs_at ps t q hq j v hj)
        rw [addr_add rfl] at this
        simpa [Nat.add_assoc] using this
      go_wp2_with (first
        | (refine wpList_load_runG rfl 64 _ rfl bb (o + t * 2) rfl q.cells.toList hrun _ Tryd.underlying64 rfl Tryd.sizePr ?_)
        | (refine wpList_store_agg rfl rfl 64 _ _ rfl xb 0 rfl q.cells.toList rfl 64 _ hX2 Tryd.sizePr (by simp) rfl q.cells rfl ?_; intro w4 hX4 hk4))
      refine bodyPost_ret (results_ct rfl rfl hX4 Tryd.underlying64 rfl Tryd.sizePr) rfl ?_
      have hk04 := hk02.step hk4 (fun x hx => by simp at hx; subst hx; exact .inr (Nat.le_of_eq hxs))
      refine ⟨hk04, .inr ⟨q, ?_, (hps q hqm).keep0 hk04, rfl⟩⟩
      rw [HNX.out, ← HT.out, ← hkv]
      simp [kvs, hq]
  have htr : t = r := by have := HT.out; rw [if_neg hb2] at this; omega
  subst htr
  cases is
  · clear hb2
    rcases fin with hft | hft
    · have n1 : (t : Int) = (ps.length : Int) := by omega
      go_wp2_with fail
      have hZ : Blk ((w2.setCell ⟨xb, 0, none⟩ (.slice none 0 0)).setCell ⟨xb, 1, none⟩ (.slice none 0 0)) xb 64 #[.slice none 0 0, .slice none 0 0] := ((hX2.put 0 (.slice none 0 0)).put 1 (.slice none 0 0)).eq (by simp)
      have hkz : Keeps [] w ((w2.setCell ⟨xb, 0, none⟩ (.slice none 0 0)).setCell ⟨xb, 1, none⟩ (.slice none 0 0)) := (hk02.set (p := ⟨xb, 0, none⟩) (.inr (Nat.le_of_eq hxs)) _).set (p := ⟨xb, 1, none⟩) (.inr (Nat.le_of_eq hxs)) _
      refine bodyPost_ret (results_ct rfl rfl hZ Tryd.underlying64 rfl Tryd.sizePr) rfl ?_
      refine ⟨hkz, .inl ⟨?_, rfl⟩⟩
      rw [HNX.out, ← HT.out, ← hkv]
      exact List.getElem?_eq_none (by rw [kvs_length]; omega)
    · have n1 : (t : Int) < (ps.length : Int) := by omega
      have n2 : ¬ ((t : Int) = (ps.length : Int)) := by omega
      have n3 : (0 : Int) ≤ (t : Int) := by omega
      obtain ⟨q, hq⟩ : ∃ q, ps[t]? = some q := ⟨_, List.getElem?_eq_getElem hft⟩
      have hqm := List.mem_of_getElem? hq
      have hcap := hS.cap
      obtain ⟨bb, o, rfl⟩ := hS.at (by omega)
      have hrun : ∀ j v, q.cells.toList[j]? = some v → w2.cell? ⟨bb, o + t * 2 + j, none⟩ = some v := fun j v hj => by
        have := (hS.keep0 hk02).cells rfl _ _ (prs_at ps t q hq j v hj)
        rw [addr_add rfl] at this
        simpa [Nat.add_assoc] using this
      go_wp2_with (first
        | (refine wpList_load_runG rfl 64 _ rfl bb (o + t * 2) rfl q.cells.toList hrun _ Tryd.underlying64 rfl Tryd.sizePr ?_)
        | (refine wpList_store_agg rfl rfl 64 _ _ rfl xb 0 rfl q.cells.toList rfl 64 _ hX2 Tryd.sizePr (by simp) rfl q.cells rfl ?_; intro w4 hX4 hk4))
      refine bodyPost_ret (results_ct rfl rfl hX4 Tryd.underlying64 rfl Tryd.sizePr) rfl ?_
      have hk04 := hk02.step hk4 (fun x hx => by simp at hx; subst hx; exact .inr (Nat.le_of_eq hxs))
      refine ⟨hk04, .inr ⟨q, ?_, (hps q hqm).keep0 hk04, rfl⟩⟩
      rw [HNX.out, ← HT.out, ← hkv]
      simp [kvs, hq]
  · obtain rfl : ab = false := by simpa using hb2
    clear hb2
    rcases fin with hft | hft
    · have n1 : (t : Int) = (ps.length : Int) := by omega
      go_wp2_with fail
      have hZ : Blk ((w2.setCell ⟨xb, 0, none⟩ (.slice none 0 0)).setCell ⟨xb, 1, none⟩ (.slice none 0 0)) xb 64 #[.slice none 0 0, .slice none 0 0] := ((hX2.put 0 (.slice none 0 0)).put 1 (.slice none 0 0)).eq (by simp)
      have hkz : Keeps [] w ((w2.setCell ⟨xb, 0, none⟩ (.slice none 0 0)).setCell ⟨xb, 1, none⟩ (.slice none 0 0)) := (hk02.set (p := ⟨xb, 0, none⟩) (.inr (Nat.le_of_eq hxs)) _).set (p := ⟨xb, 1, none⟩) (.inr (Nat.le_of_eq hxs)) _
      refine bodyPost_ret (results_ct rfl rfl hZ Tryd.underlying64 rfl Tryd.sizePr) rfl ?_
      refine ⟨hkz, .inl ⟨?_, rfl⟩⟩
      rw [HNX.out, ← HT.out, ← hkv]
      exact List.getElem?_eq_none (by rw [kvs_length]; omega)
    · have n1 : (t : Int) < (ps.length : Int) := by omega
      have n2 : ¬ ((t : Int) = (ps.length : Int)) := by omega
      have n3 : (0 : Int) ≤ (t : Int) := by omega
      obtain ⟨q, hq⟩ : ∃ q, ps[t]? = some q := ⟨_, List.getElem?_eq_getElem hft⟩
      have hqm := List.mem_of_getElem? hq
      have hcap := hS.cap
      obtain ⟨bb, o, rfl⟩ := hS.at (by omega)
      have hrun : ∀ j v, q.cells.toList[j]? = some v → w2.cell? ⟨bb, o + t * 2 + j, none⟩ = some v := fun j v hj => by
        have := (hS.keep0 hk02).cells rfl _ _ (prs_at ps t q hq j v hj)
        rw [addr_add rfl] at this
        simpa [Nat.add_assoc] using this
      go_wp2_with (first
        | (refine wpList_load_runG rfl 64 _ rfl bb (o + t * 2) rfl q.cells.toList hrun _ Tryd.underlying64 rfl Tryd.sizePr ?_)
        | (refine wpList_store_agg rfl rfl 64 _ _ rfl xb 0 rfl q.cells.toList rfl 64 _ hX2 Tryd.sizePr (by simp) rfl q.cells rfl ?_; intro w4 hX4 hk4))
      refine bodyPost_ret (results_ct rfl rfl hX4 Tryd.underlying64 rfl Tryd.sizePr) rfl ?_
      have hk04 := hk02.step hk4 (fun x hx => by simp at hx; subst hx; exact .inr (Nat.le_of_eq hxs))
      refine ⟨hk04, .inr ⟨q, ?_, (hps q hqm).keep0 hk04, rfl⟩⟩
      rw [HNX.out, ← HT.out, ← hkv]
      simp [kvs, hq]
end Go.Proofs.YtknnhnpcgefchaaDoor
