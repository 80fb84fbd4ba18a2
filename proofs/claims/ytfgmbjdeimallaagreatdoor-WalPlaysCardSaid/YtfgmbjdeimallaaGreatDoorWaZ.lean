/- The wal's frames: an entry's bytes, frames one behind the other, numbers read. -/
import Derived.Test.YtfgmbjdeimallaaGreatDoorWaY
import Derived.Test.YtfgmbjdeimallaaGreatDoorWnZ
import Derived.Test.YtfgmbjdeimallaaGreatDoorRegZ

namespace Go.Proofs.YtfgmbjdeimallaaGreatDoor
open Go.RowKit Go.Lib

def EbPost (x : Ent) (w : World) (e : Ending) (w' : World) : Prop := ∃ ao d ev l, e = .returned (.tuple #[.slice ao l.length d, ev]) ∧ (entOk x = true → l = (Ev.ent x).bytes) ∧ Own w' w.heap.size ao d l ∧ ErrF w' ev (if entOk x then 0 else 20) ∧ Keeps [] w w'
set_option maxRecDepth 100000 in
set_option maxHeartbeats 4000000 in
theorem entryBytes_any (x : Ent) (w : World) (h1 : x.term < 18446744073709551616) (h2 : x.client < 18446744073709551616) (h3 : x.seq < 18446744073709551616) :
    Calls Tryz.prog 37 #[.agg x.cells] w (EbPost x w) := by
  obtain ⟨i, z, hi, hz, hsz, hby, hzc⟩ := infoB
  have hX := Blk.fresh w 65 x.cells
  have hkX := (Keeps.refl [] w).alloc (.cells x.cells 65)
  have hP := putEntry_any x.term x.kind x.client x.seq x.sql (w.alloc (.cells x.cells 65)) h1 h2 h3
  obtain ⟨B, hBd⟩ : ∃ B, B = (if entOk ⟨x.term, x.kind, x.client, x.seq, x.sql⟩ then putE ⟨x.term, x.kind, x.client, x.seq, x.sql⟩ else []) := ⟨_, rfl⟩
  have hBl : B.length ≤ 2033 := by
    rw [hBd]
    split
    · rename_i hok
      have := putE_length (e := x) ⟨hok, h1, h2, h3⟩
      have h0 := hok
      simp only [entOk, Bool.and_eq_true, decide_eq_true_eq] at h0
      exact Nat.le_trans this (by omega)
    · simp
  rw [← hBd] at hP
  have HP := Lib.hid hP
  have HBD := Lib.hid hBd
  clear hP hBd
  go_enter Tryz.func37, Tryz.ntmps37
  go_wp2_with (refine wpList_load_agg rfl _ _ rfl w.heap.size 0 5 rfl 65 _ _ hX Tryz.underlying65 rfl Tryz.sizeE (by simp) _ rfl ?_)
  refine HP.out.mono ?_
  rintro e w2 ⟨bo, d, ev, rfl, hB2, hE2, hk2⟩
  have hO0 := own_lit0 w2 [2] w.heap.size (by have := hkX.size; have := hk2.size; omega)
  have hkL := (Keeps.refl [] w2).alloc (.cells (bys [2]).toArray 5)
  have HE := Lib.hid hE2
  have hB3 := hB2.keep0 hkL
  clear hX
  go_wp2_with (at_builtin; refine wpList_append_by _ rfl _ _ 26 26 rfl (w.heap.size) 5 i z 1 1 Tryz.underlying26 hi hz hsz hby hzc (some ⟨w2.heap.size, 0, none⟩) _ (1) _ rfl hO0 _ rfl B.length _ (hB3.rb.src Tryz.underlying26) (by unfold maxLen; simp; omega) (by simp; omega) (by have := hkX.size; have := hk2.size; simp; omega) ?_; intro a3 c3 w3 hO3 hk3 hb3)
  have hO4 := Own.of hO3 (bys_append [2] B).symm
  have hk03 : Keeps [] w w3 := ((hkX.trans hk2).trans hkL).own hk3 hO0
  go_ret2
  refine ⟨a3, c3, ev, [2] ++ B, by simp; omega, fun hok => ?_, hO4, ?_, hk03⟩
  · rw [HBD.out, if_pos hok]
    rfl
  · refine ErrF.keep HE.out ?_
    exact (hkL.step hk3 (fun y hy => .inr (by simp at hy; omega)))

/-- bytes, where they lie -/
structure Bsl where
  a : Option Addr
  c : Nat
  l : List UInt8
abbrev Bsl.cell (x : Bsl) : Value := .slice x.a x.l.length x.c
def Rbs (w : World) (ao : Option Addr) (c : Nat) (ls : List Bsl) : Prop := Sl w 1 ao ls.length c (ls.map Bsl.cell) ∧ ∀ x ∈ ls, Rb w x.a x.c x.l
theorem Rbs.keep0 {w w' : World} {ao : Option Addr} {c : Nat} {ls : List Bsl} (h : Rbs w ao c ls) (hk : Keeps [] w w') : Rbs w' ao c ls := ⟨h.1.keep0 hk, fun x hx => (h.2 x hx).keep0 hk⟩
def frs (ls : List Bsl) : List UInt8 := (ls.map fun x => frame x.l).flatten
theorem frs_succ {ls : List Bsl} {j : Nat} {x : Bsl} (h : ls[j]? = some x) : frs (ls.take (j + 1)) = frs (ls.take j) ++ frame x.l := by
  obtain ⟨hj, rfl⟩ := List.getElem?_eq_some_iff.1 h
  have h : ls.take (j + 1) = ls.take j ++ [ls[j]] := by rw [List.take_add_one, List.getElem?_eq_getElem hj]; rfl
  unfold frs
  rw [h, List.map_append, List.flatten_append]
  simp
theorem frs_most (ls : List Bsl) (j : Nat) : (frs (ls.take j)).length ≤ (frs ls).length := by
  have h : frs ls = frs (ls.take j) ++ frs (ls.drop j) := by
    unfold frs
    rw [← List.flatten_append, ← List.map_append, List.take_append_drop]
  rw [h]
  simp

set_option maxRecDepth 100000 in
set_option maxHeartbeats 4000000 in
theorem framed_any (lo : Option Addr) (lc : Nat) (ls : List Bsl) (w : World) (h : Rbs w lo lc ls) (hm : ∀ x ∈ ls, x.l.length ≤ 262144) (ht : (frs ls).length ≤ 1000000000) :
    Calls Tryz.prog 59 #[.slice lo ls.length lc] w fun e w' => ∃ ao d, e = .returned (.tuple #[.slice ao (frs ls).length d, .nilIface]) ∧ Own w' w.heap.size ao d (frs ls) ∧ Keeps [] w w' := by
  obtain ⟨i, z, hi, hz, hsz, hby, hzc⟩ := infoB
  have hcp := h.1.cap
  have hmx := h.1.most
  unfold maxLen at hmx
  have H := Lib.hid (And.intro h hm)
  clear h hm
  go_enter Tryz.func59, Tryz.ntmps59
  go_wp2_with fail
  go_loopw [4, 11] (fun v s wr => ∃ (j : Nat) (ao : Option Addr) (c : Nat), v = .slice ao (frs (ls.take j)).length c ∧ s = .int .i64 (j : Int) ∧ j ≤ ls.length ∧ Own wr w.heap.size ao c (frs (ls.take j)) ∧ Keeps [] w wr) (fun _ s _ => ls.length - (intOf s).toNat)
  case atStart => exact ⟨0, none, 0, rfl, rfl, Nat.zero_le _, Own.nil _ _, Keeps.refl _ _⟩
  case round =>
    obtain ⟨j, ao, c, rfl, rfl, hj, hO, hk⟩ := hrel
    have hmost := frs_most ls j
    by_cases hjl : j < ls.length
    rotate_left
    · have n1 : ¬ ((j : Int) < (ls.length : Int)) := by omega
      obtain rfl : j = ls.length := by omega
      rw [List.take_length] at hO ⊢
      go_wp2_with fail
      go_ret2
      exact ⟨ao, c, rfl, hO, hk⟩
    have n1 : (j : Int) < (ls.length : Int) := by omega
    have s1 : IntKind.i64.wrap ((j : Int) + 1) = j + 1 := IntWalk.i64_in _ (by omega)
    have hmost2 := frs_most ls (j + 1)
    have hv := List.getElem?_eq_getElem hjl
    have hmem := List.getElem_mem hjl
    generalize ls[j] = x at hv hmem
    obtain ⟨b, o, rfl⟩ := H.out.1.1.at (by omega)
    have hcj : wr.cell? ⟨b, o + j, none⟩ = some (.slice x.a x.l.length x.c) := (H.out.1.1.keep0 hk).cell _ rfl j _ (by rw [List.getElem?_map, hv]; rfl)
    have hx := (H.out.1.2 x hmem).keep0 hk
    have hxl := H.out.2 x hmem
    have hF := frame_any x.a x.c x.l wr hx
    rw [if_pos hxl, if_pos hxl] at hF
    have hS := frs_succ hv
    rw [hS, List.length_append] at hmost2
    have HV := Lib.hid (And.intro hF hS)
    clear hv hS hmem hF hx hxl
    go_wp2_with fail
    refine HV.out.1.mono ?_
    rintro e w1 ⟨ao1, c1, ev, rfl, hO1, hE1, hk1⟩
    obtain rfl := hE1.zero.2 rfl
    clear hE1
    have hO' := hO.keep0 hk1
    clear hcj
    go_wp2_with (at_builtin; refine wpList_append_by _ rfl _ _ 26 26 rfl (w.heap.size) 5 i z 1 1 Tryz.underlying26 hi hz hsz hby hzc (ao) _ (c) _ rfl hO' _ rfl (frame x.l).length _ (hO1.rb.src Tryz.underlying26) (by unfold maxLen; omega) (by omega) (by have := hk.size; have := hk1.size; omega) ?_; intro ao' c' w' hO2 hk' hb')
    have hO3 := Own.of hO2 (bys_append _ _).symm
    rw [← HV.out.2] at hO3
    have hlen : (frs (ls.take j)).length + (frame x.l).length = (frs (ls.take (j + 1))).length := by rw [HV.out.2]; simp
    have HLN := Lib.hid hlen
    clear hlen hO2
    go_roundw
    case rel => exact ⟨j + 1, ao', c', by rw [HLN.out], by simp, by omega, hO3, (hk.trans hk1).own hk' hO'⟩
    case measure => simp [intOf]; omega
end Go.Proofs.YtfgmbjdeimallaaGreatDoor
/- The wal: drops; numbers that are read. -/

namespace Go.Proofs.YtfgmbjdeimallaaGreatDoor
open Go.RowKit Go.Lib

section
variable {w : World} {wb db : Nat} {s : Ws} {size : Int} {E : List Nat}
/-- what drops leaves -/
theorem drops_fin {i t : Nat} {ao ao' : Option Addr} {c c' n' : Nat} {w0 : World} (hB : Blk w0 wb 81 (walCells db s ao c size)) (hk0 : Keeps [] w w0) (hn : n' = (s.es.drop (i - s.base)).length) (hO : OwnO w0 65 5 ao' n' c' (ents (s.es.drop (i - s.base)))) (hb : ∀ x ∈ blks ao', x ∈ blks ao) :
    ∀ W : World, W = ((w0.setCell ⟨wb, 5, none⟩ (.slice ao' n' c')).setCell ⟨wb, 3, none⟩ (.int .u64 (i : Nat))).setCell ⟨wb, 4, none⟩ (.int .u64 (t : Nat)) → ∃ E', WalAt W wb db (s.ev (.drop i t)) size E' ∧ (∀ x ∈ E', x ∈ blks ao) ∧ Keeps [wb] w W := by
  rintro W rfl
  have hk : Keeps [wb] w0 _ := (((Keeps.refl [wb] w0).set (p := ⟨wb, 5, none⟩) (.inl (by simp)) (.slice ao' n' c')).set (p := ⟨wb, 3, none⟩) (.inl (by simp)) (.int .u64 (i : Nat))).set (p := ⟨wb, 4, none⟩) (.inl (by simp)) (.int .u64 (t : Nat))
  refine ⟨blks ao', ⟨ao', c', ?_, ?_, rfl⟩, hb, hk0.of_nil.trans hk⟩
  · have := ((hB.put 5 (.slice ao' n' c')).put 3 (.int .u64 (i : Nat))).put 4 (.int .u64 (t : Nat))
    refine this.eq ?_
    subst hn
    simp [walCells, Ws.ev]
  · have := hO.keep hk (fun x hx => by simp; rintro rfl; exact hO.off hB (by decide) hx)
    rw [show (s.ev (.drop i t)).es = s.es.drop (i - s.base) from rfl, ← hn]
    exact this

set_option maxRecDepth 100000 in
set_option maxHeartbeats 4000000 in
theorem wdrops (h : WalAt w wb db s size E) (i t : Nat) (h1 : s.base ≤ i) (h2 : i ≤ 4611686018427387904) (hl : s.es.length ≤ 4611686018427387904) : Calls Tryz.prog 47 #[.pointer (some ⟨wb, 0, none⟩), .int .u64 (i : Nat), .int .u64 (t : Nat)] w fun e w' => e = .returned (.tuple #[]) ∧ ∃ E', WalAt w' wb db (s.ev (.drop i t)) size E' ∧ (∀ x ∈ E', x ∈ E) ∧ Keeps [wb] w w' := by
  have hL := wlast h (by unfold Ws.last; omega) (by omega)
  have HL := Lib.hid (And.intro hL h)
  obtain ⟨ao, c, hB, hO, rfl⟩ := h.at_
  have hcp := hO.cap
  have hcm := hO.most
  unfold maxLen at hcm
  clear hL h hB hO
  go_enter Tryz.func47, Tryz.ntmps47
  go_wp2_with fail
  refine HL.out.1.mono ?_
  rintro e w1 ⟨rfl, hk1⟩
  obtain ⟨ao, c, hB, hO, e1⟩ := (HL.out.2.keep0 hk1).at_
  have hcp := hO.cap
  have hcm := hO.most
  unfold maxLen at hcm
  have HB := Lib.hid (And.intro hB (And.intro hO (And.intro hk1 e1)))
  have hc := hB.cell
  have hf := hB.free
  have hlt := hB.lt
  unfold Ws.last
  by_cases hbig : s.base + s.es.length < i
  · have n1 : ((s.base + s.es.length : Nat) : Int) < (i : Int) := by omega
    have fin := drops_fin (t := t) hB hk1 (n' := 0) (i := i) (by simp; omega) (ao' := none) (c' := 0) (by rw [List.drop_of_length_le (by omega)]; exact OwnO.nil _ _ _) (by simp)
    have FIN := Lib.hid fin
    clear fin hB hO hk1 e1
    go_wp2_with fail
    go_end0
    rw [HB.out.2.2.2]
    exact ⟨rfl, FIN.out _ rfl⟩
  · have n1 : ¬ (((s.base + s.es.length : Nat) : Int) < (i : Int)) := by omega
    obtain ⟨k, hk⟩ : ∃ k, k = i - s.base := ⟨_, rfl⟩
    have q1 : IntKind.u64.wrap ((i : Int) - (s.base : Int)) = (k : Int) := by rw [IntWalk.u64_in _ (by omega)]; omega
    have m1 : k ≤ s.es.length := by omega
    have m2 : k ≤ c := by omega
    have m3 : (0 : Int) ≤ (k : Int) := by omega
    have m4 : (k : Int) ≤ (c : Int) := by omega
    have m5 : (k : Int) ≤ (s.es.length : Int) := by omega
    have m6 : (s.es.length : Int) ≤ (c : Int) := by omega
    have hD := hO.drop m1
    rw [ents_drop] at hD
    have fin := drops_fin (t := t) (i := i) (n' := s.es.length - k) (c' := c - k) (ao' := if c = k then ao else ao.map (·.add (k * 5))) (hB.drew) (hk1.drew) (by simp [← hk]) (by rw [← hk]; exact hD.keep0 ((Keeps.refl [] w1).drew)) (by
      intro x hx
      split at hx
      · exact hx
      · cases ao with
        | none => simp at hx
        | some ad =>
          rcases hO with ⟨h0, _⟩ | ⟨g, o, cur, h0, _⟩
          · cases h0
          · cases h0
            simpa [Addr.add_lit] using hx)
    have FIN := Lib.hid fin
    clear fin hk hD
    rcases hO with ⟨rfl, h02, rfl, h04⟩ | ⟨g, o, cur, rfl, h04⟩
    · obtain rfl : k = 0 := by omega
      have F2 := FIN.out
      rw [if_pos rfl] at F2
      simp only [h02] at F2 hc
      have F3 := Lib.hid F2
      have h05 : s.es.length = 0 := h02
      clear F2 hB hk1 e1 h04
      go_wp2_with fail
      refine wp_region_still_tail 14 (by kernel_rfl) (by kernel_rfl) ?_
      change wpStill _ _ (World.drew _) _ _ _
      simp only [List.take_succ_cons, List.take_zero, List.drop_succ_cons, List.drop_zero]
      repeat still_step
      refine wpStill_nil ?_
      change wpList _ _ _ _ _ (World.drew _)
      go_wp2_with fail
      go_end0
      rw [HB.out.2.2.2]
      exact ⟨rfl, F3.out _ rfl⟩
    · clear h04
      by_cases hck : c = k
      · have F2 := FIN.out
        rw [if_pos hck, show s.es.length - k = 0 by omega, show c - k = 0 by omega] at F2
        have F3 := Lib.hid F2
        clear F2 hB hk1 e1
        subst hck
        go_wp2_with fail
        refine wp_region_still_tail 14 (by kernel_rfl) (by kernel_rfl) ?_
        change wpStill _ _ (World.drew _) _ _ _
        simp only [List.take_succ_cons, List.take_zero, List.drop_succ_cons, List.drop_zero]
        repeat still_step
        refine wpStill_nil ?_
        change wpList _ _ _ _ _ (World.drew _)
        go_wp2_with fail
        go_end0
        rw [HB.out.2.2.2]
        exact ⟨rfl, F3.out _ rfl⟩
      · have F2 := FIN.out
        rw [if_neg hck] at F2
        simp only [Option.map_some, Addr.add_lit] at F2
        have F3 := Lib.hid F2
        clear F2 hB hk1 e1
        go_wp2_with fail
        refine wp_region_still_tail 14 (by kernel_rfl) (by kernel_rfl) ?_
        change wpStill _ _ (World.drew _) _ _ _
        simp only [List.take_succ_cons, List.take_zero, List.drop_succ_cons, List.drop_zero]
        repeat still_step
        refine wpStill_nil ?_
        change wpList _ _ _ _ _ (World.drew _)
        go_wp2_with fail
        go_end0
        rw [HB.out.2.2.2]
        exact ⟨rfl, F3.out _ rfl⟩
end

def TU64 : TypeId := 23
/-- numbers one behind the other -/
def numsB (ps : List (Nat × Nat)) : List UInt8 := (ps.map fun p => uvarint p.2).flatten
theorem numsB_drop {ps : List (Nat × Nat)} {j : Nat} {p : Nat × Nat} (h : ps[j]? = some p) : numsB (ps.drop j) = uvarint p.2 ++ numsB (ps.drop (j + 1)) := by
  obtain ⟨hj, rfl⟩ := List.getElem?_eq_some_iff.1 h
  rw [List.drop_eq_getElem_cons hj]
  rfl

def RdDone (w : World) (ps : List (Nat × Nat)) : Prop := ∀ p ∈ ps, Blk w p.1 23 #[.int .u64 (p.2 : Nat)]
set_option maxRecDepth 100000 in
set_option maxHeartbeats 4000000 in
theorem readU_any (ps : List (Nat × Nat)) (lo : Option Addr) (lc : Nat) (bo : Option Addr) (bc : Nat) (w : World) (hR : Rb w bo bc (numsB ps)) (hP : Sl w 1 lo ps.length lc (ps.map fun p => Value.pointer (some ⟨p.1, 0, none⟩)))
    (hB : ∀ p ∈ ps, ∃ old, Blk w p.1 23 #[old]) (hN : (ps.map (·.1)).Nodup) (hn : ∀ p ∈ ps, p.2 < 18446744073709551616) (hl : ps.length ≤ 10) (hb : ∀ ad, bo = some ad → ad.block ∉ ps.map (·.1)) (hlo : ∀ ad, lo = some ad → ad.block ∉ ps.map (·.1)) (hmax : bc ≤ 9223372036854775807) :
    Calls Tryz.prog 57 #[.slice bo (numsB ps).length bc, .slice lo ps.length lc] w fun e w' => e = .returned .nilIface ∧ RdDone w' ps ∧ Keeps (ps.map (·.1)) w w' := by
  have hcp := hP.cap
  have H := Lib.hid (And.intro hP (And.intro hn (And.intro hN hlo)))
  have hstart : Rb w bo bc (numsB (ps.drop 0)) := hR
  have HS := Lib.hid (And.intro hstart (And.intro hb hB))
  clear hP hn hN hlo hR hstart hb hB
  go_enter Tryz.func57, Tryz.ntmps57
  go_wp2_with fail
  go_loopw [0, 12] (fun v s wr => ∃ (j : Nat) (ao : Option Addr) (c : Nat), v = .slice ao (numsB (ps.drop j)).length c ∧ s = .int .i64 (j : Int) ∧ j ≤ ps.length ∧ Rb wr ao c (numsB (ps.drop j)) ∧ c ≤ 9223372036854775807 ∧ (∀ ad, ao = some ad → ad.block ∉ ps.map (·.1)) ∧ (∀ k p, ps[k]? = some p → k < j → Blk wr p.1 23 #[.int .u64 (p.2 : Nat)]) ∧ (∀ k p, ps[k]? = some p → j ≤ k → ∃ old, Blk wr p.1 23 #[old]) ∧ Keeps (ps.map (·.1)) w wr) (fun _ s _ => ps.length - (intOf s).toNat)
  case atStart => exact ⟨0, bo, bc, rfl, rfl, Nat.zero_le _, HS.out.1, hmax, HS.out.2.1, fun _ _ _ h => absurd h (by omega), fun k p h _ => HS.out.2.2 p (List.mem_of_getElem? h), Keeps.refl _ _⟩
  case round =>
    obtain ⟨j, ao, c, rfl, rfl, hj, hRj, hcm, hoff, hdone, htodo, hk⟩ := hrel
    by_cases hjl : j < ps.length
    rotate_left
    · have n1 : ¬ ((j : Int) < (ps.length : Int)) := by omega
      have HD := Lib.hid (And.intro hdone hk)
      clear hdone hk htodo hRj hoff
      go_wp2_with fail
      go_ret
      refine ⟨rfl, fun p hp => ?_, HD.out.2⟩
      obtain ⟨k, hkl, rfl⟩ := List.getElem_of_mem hp
      exact HD.out.1 k _ (List.getElem?_eq_getElem hkl) (by omega)
    have n1 : (j : Int) < (ps.length : Int) := by omega
    have s1 : IntKind.i64.wrap ((j : Int) + 1) = j + 1 := IntWalk.i64_in _ (by omega)
    have hv := List.getElem?_eq_getElem hjl
    have hmem := List.getElem_mem hjl
    generalize ps[j] = p at hv hmem
    obtain ⟨b, o, hlo⟩ := H.out.1.at (by omega)
    have hbo : b ∉ ps.map (·.1) := H.out.2.2.2 _ hlo
    subst hlo
    have hpn := H.out.2.1 p hmem
    have hcj : wr.cell? ⟨b, o + j, none⟩ = some (.pointer (some ⟨p.1, 0, none⟩)) := (H.out.1.keep hk (fun ad e _ => by cases e; exact hbo)).cell _ rfl j _ (by rw [List.getElem?_map, hv]; rfl)
    obtain ⟨old, hBp⟩ := htodo j p hv (Nat.le_refl _)
    have hU := uint_any ao c _ wr hRj
    have hsp := numsB_drop hv
    have hup := uvarint_pos p.2
    have hul := uvarint_length64 hpn
    have hcap := hRj.cap
    have hmost := hRj.most
    rw [hsp, rdU_put p.2 _ hpn, ← hsp] at hU
    obtain ⟨n, hnn⟩ : ∃ n, n = (numsB (ps.drop j)).length := ⟨_, rfl⟩
    obtain ⟨z, hz⟩ : ∃ z, z = (uvarint p.2).length := ⟨_, rfl⟩
    have hnl : n = z + (numsB (ps.drop (j + 1))).length := by rw [hnn, hsp, hz]; simp
    have hnp : 0 < n := by omega
    rw [← hnn] at hcap
    obtain ⟨g, q, rfl⟩ := hRj.at (by omega)
    have hT : Rb wr (if c = z then some ⟨g, q, none⟩ else some ⟨g, q + z, none⟩) (c - z) (numsB (ps.drop (j + 1))) := by
      have hD := Rb.part (z := z) (n := n - z) hRj (by omega)
      have e1 : ((numsB (ps.drop j)).drop z).take (n - z) = numsB (ps.drop (j + 1)) := by
        rw [hsp, hz, List.drop_left]
        exact List.take_of_length_le (by omega)
      rw [e1] at hD
      simpa [Addr.add_lit] using hD
    rw [← hnn, ← hz] at hU
    rw [← hnn]
    have hgo : g ∉ ps.map (·.1) := hoff _ rfl
    have HU := Lib.hid (And.intro hU (And.intro hT (And.intro hdone (And.intro htodo (And.intro hk (And.intro hv hBp))))))
    have hcp1 := hBp.free 0
    have hmn : (n : Int) ≤ (c : Int) := by omega
    have hmz : (z : Int) ≤ (n : Int) := by omega
    have hz0 : (0 : Int) ≤ (z : Int) := by omega
    have hcz2 : c - z ≤ 9223372036854775807 := by omega
    have HNL := Lib.hid (And.intro hnl (And.intro hcz2 (And.intro hnp (And.intro hup hul))))
    clear hU hT hdone htodo hk hv hsp hmem hRj hoff hz hnn hBp hnl hnp hup hul hcz2 hcap hmost hcm
    go_wp2_with fail
    refine HU.out.1.mono ?_
    rintro e w1 ⟨ev, rfl, -, hev, hk1⟩
    obtain rfl : ev = .nilIface := by simpa using hev
    have hT1 := HU.out.2.1.keep0 hk1
    have hBp1 := HU.out.2.2.2.2.2.2.keep hk1 (by simp)
    have hcl1 := hBp1.cell
    have hfr1 := hBp1.free
    have hlt1 := hBp1.lt
    clear hev
    have hpm : p.1 ∈ ps.map (·.1) := List.mem_map.2 ⟨p, List.mem_of_getElem? HU.out.2.2.2.2.2.1, rfl⟩
    have hgp : g ≠ p.1 := fun e => hgo (e ▸ hpm)
    have fin : ∀ (ao' : Option Addr) (W : World), ao' = (if c = z then some ⟨g, q, none⟩ else some ⟨g, q + z, none⟩) → W = (w1.drew.setCell ⟨p.1, 0, none⟩ (.int .u64 (p.2 : Nat))) → ∃ (j' : Nat) (ao : Option Addr) (c' : Nat), Value.slice ao' (n - z) (c - z) = .slice ao (numsB (ps.drop j')).length c' ∧ Value.int .i64 ((j : Int) + 1) = .int .i64 (j' : Int) ∧ j' ≤ ps.length ∧ Rb W ao c' (numsB (ps.drop j')) ∧ c' ≤ 9223372036854775807 ∧ (∀ ad, ao = some ad → ad.block ∉ ps.map (·.1)) ∧ (∀ k p, ps[k]? = some p → k < j' → Blk W p.1 23 #[.int .u64 (p.2 : Nat)]) ∧ (∀ k p, ps[k]? = some p → j' ≤ k → ∃ old, Blk W p.1 23 #[old]) ∧ Keeps (ps.map (·.1)) w W := by
      rintro ao' W hao' rfl
      obtain ⟨hnl, hcz2, -⟩ := HNL.out
      obtain ⟨-, -, hdone, htodo, hk, hv, -⟩ := HU.out
      have hks : Keeps [p.1] w1 (w1.drew.setCell ⟨p.1, 0, none⟩ (.int .u64 (p.2 : Nat))) := (Keeps.refl [p.1] w1).drew.set (p := ⟨p.1, 0, none⟩) (.inl (by simp)) _
      have hne : ∀ (k : Nat) (p' : Nat × Nat), ps[k]? = some p' → k ≠ j → p'.1 ∉ [p.1] := fun k p' hk' hne => by
        obtain ⟨a1, a2⟩ := List.getElem?_eq_some_iff.1 hk'
        obtain ⟨b1, b2⟩ := List.getElem?_eq_some_iff.1 hv
        simp only [List.mem_singleton]
        intro e
        have := H.out.2.2.1
        have h1 : (ps.map (·.1))[k]'(by simpa using a1) = (ps.map (·.1))[j]'(by simpa using b1) := by simp [a2, b2, e]
        have h2 := List.pairwise_iff_getElem.1 this
        rcases Nat.lt_or_gt_of_ne hne with h | h
        · exact h2 k j (by simpa using a1) (by simpa using b1) h h1
        · exact h2 j k (by simpa using b1) (by simpa using a1) h h1.symm
      refine ⟨j + 1, ao', c - z, by rw [show n - z = (numsB (ps.drop (j + 1))).length by omega], by simp, by omega, ?_, by omega, ?_, ?_, ?_, ?_⟩
      · rw [hao']
        refine hT1.keep hks (fun ad e _ => ?_)
        simp only [List.mem_singleton]
        split at e <;> (cases e; exact hgp)
      · intro ad e
        rw [hao'] at e
        split at e <;> (cases e; exact hgo)
      · intro k p' hk' hlt
        by_cases hkj : k = j
        · subst hkj
          rw [hv] at hk'
          obtain rfl := Option.some.inj hk'
          exact (hBp1.drew.put 0 _).eq (by simp)
        · exact ((hdone k p' hk' (by omega)).keep hk1 (by simp)).keep hks (hne k p' hk' hkj)
      · intro k p' hk' hle
        obtain ⟨old', hB'⟩ := htodo k p' hk' (by omega)
        exact ⟨old', (hB'.keep hk1 (by simp)).keep hks (hne k p' hk' (by omega))⟩
      · exact (hk.trans hk1.of_nil).trans (hks.mono (by intro x hx; simp at hx; subst hx; exact hpm))
    have FIN := Lib.hid fin
    clear fin hT1 hBp1
    by_cases hcz : c = z
    · have F2 := FIN.out _ _ (if_pos hcz).symm rfl
      rw [show c - z = 0 by omega] at F2
      have F3 := Lib.hid F2
      clear F2
      subst hcz
      go_wp2_with fail
      go_region
      go_wp2_with fail
      go_roundw
      case rel => exact F3.out
      case measure => simp [intOf]; omega
    · have F2 := FIN.out _ _ (if_neg hcz).symm rfl
      have F3 := Lib.hid F2
      clear F2
      go_wp2_with fail
      go_region
      go_wp2_with fail
      go_roundw
      case rel => exact F3.out
      case measure => simp [intOf]; omega
end Go.Proofs.YtfgmbjdeimallaaGreatDoor
