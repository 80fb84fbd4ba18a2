/- A node of a group: leads. -/
import Derived.Test.YtdeaelbelcjhcaaDoorRaft25


namespace Go.Proofs.YtdeaelbelcjhcaaDoor
open Go.RowKit

abbrev pz : Pe := ⟨0, 0, 0, 0⟩
theorem Tryd.mkPeersN (n : Nat) (h7 : n ≤ 7) (w : World) : (Instr.makeSlice 60 (.int .i64 (n : Int)) (.int .i64 (n : Int))).run Tryd.prog w = .ok (.slice (some ⟨w.heap.size, 0, none⟩) n n) (w.alloc (.cells (pcs (List.replicate n pz)).toArray 78)) := by
  obtain rfl | rfl | rfl | rfl | rfl | rfl | rfl | rfl : n = 0 ∨ n = 1 ∨ n = 2 ∨ n = 3 ∨ n = 4 ∨ n = 5 ∨ n = 6 ∨ n = 7 := by omega
  all_goals kernel_rfl

theorem rep_set (n k : Nat) (hk : k < n) (A Z : Pe) : (List.replicate k A ++ List.replicate (n - k) Z).set k A = List.replicate (k + 1) A ++ List.replicate (n - (k + 1)) Z := by
  rw [List.set_append_right _ _ (by simp)]
  simp only [List.length_replicate, Nat.sub_self]
  obtain ⟨m, hm⟩ : ∃ m, n - k = m + 1 := ⟨n - k - 1, by omega⟩
  rw [hm, show n - (k + 1) = m by omega, List.replicate_succ, List.set_cons_zero, List.replicate_succ' (n := k)]
  simp
theorem rep_at (n k : Nat) (hk : k < n) (A Z : Pe) : (List.replicate k A ++ List.replicate (n - k) Z)[k]? = some Z := by
  rw [List.getElem?_append_right (by simp)]
  simp only [List.length_replicate, Nat.sub_self]
  rw [List.getElem?_replicate, if_pos (by omega)]

/-- what a node knows of the others when it begins to lead -/
def ledPs (id n : Nat) (l : Int) : List Pe := (List.replicate n ⟨l + 1, 0, 0, 0⟩).set id ⟨l + 1, l + 1, 1, 0⟩
/-- a node that has just begun to lead, ahead of its counting -/
def Rf.led0 (r : Rf) (pb n : Nat) (i : Int) : Rf := { r with ro := 2, ld := r.id, bt := 0, rd := 1, rs := (none, 0, 0), ps := (some ⟨pb, 0, none⟩, n, n), fr := i }
def Lg.snoc (g : Lg) (e : En) : Lg := { g with es := g.es ++ [e] }
def Rf.ledN (r : Rf) (pb id n : Nat) (g : Lg) : Rf := { r.led0 pb n (g.last + 1) with cm := counted (r.led0 pb n (g.last + 1)) (g.snoc ⟨r.tm, 0, 0, 0, ⟨#[]⟩⟩) (ledPs id n g.last) }

theorem led_len (id n : Nat) (l : Int) : (ledPs id n l).length = n := by simp [ledPs]
theorem led_at {id n : Nat} {l : Int} {j : Nat} {p : Pe} (h : (ledPs id n l)[j]? = some p) (hj : j ≠ id) : p = ⟨l + 1, 0, 0, 0⟩ := by
  unfold ledPs at h
  rw [List.getElem?_set_ne (by omega), List.getElem?_replicate] at h
  split at h
  · exact (Option.some.inj h).symm
  · cases h
theorem Lg.snoc_last (g : Lg) (e : En) : (g.snoc e).last = g.last + 1 := g.last_snoc e
theorem cntUp_le (ok : Int → Bool) (cm : Int) (k : Nat) : cm ≤ cntUp ok cm k ∧ cntUp ok cm k ≤ cm + (k : Int) := by
  induction k with
  | zero => simp [cntUp]
  | succ k ih =>
    simp only [cntUp]
    split
    · omega
    · omega

set_option maxRecDepth 100000 in
set_option maxHeartbeats 8000000 in
theorem rleads (b id n : Nat) (r : Rf) (g : Lg) (w : World) (hB : Blk w b 63 r.cells) (hL : LogAt w r.lg g) (hid : r.id = (id : Int)) (hn : r.n = (n : Int)) (hin : id < n) (h7 : n ≤ 7) (hf0 : r.fr = 0) (hms : r.ms = (none, 0, 0)) (hg0 : 0 ≤ g.base) (hg1 : g.last < 800000) (hgb : g.base ≤ r.cm) (hgc : r.cm ≤ g.last) :
    Calls Tryd.prog 44 #[.pointer (some ⟨b, 0, none⟩)] w fun e w' => ∃ pb N ao c ys, e = .returned (.tuple #[]) ∧ w.heap.size ≤ pb ∧ w.heap.size ≤ N ∧ RC w' N b pb { r.ledN pb id n g with ms := (ao, (oth id n).length, c) } (g.snoc ⟨r.tm, 0, 0, 0, ⟨#[]⟩⟩) (ledPs id n g.last) ∧
      Ow w' N (ao, (oth id n).length, c) ys ∧ Fed (r.ledN pb id n g) (g.snoc ⟨r.tm, 0, 0, 0, ⟨#[]⟩⟩) (ledPs id n g.last) (oth id n) ys ∧ Keeps [b, r.lg] w w' := by
  have hc := hB.cell
  simp only [Rf.cells, hid, hn] at hc
  have hl := hB.lt
  have hf := hB.free
  have hbl : b ≠ r.lg := by rintro rfl; obtain ⟨_, _, hL0, _, _⟩ := hL; exact absurd rfl (hB.ne hL0 (by decide))
  have mk := Tryd.mkPeersN n h7
  go_enter Tryd.func44, Tryd.ntmps44
  go_upto_region 1 with (fail)
  have hB1 := (((((hB.put 6 (.int .i64 2)).put 7 (.int .i64 id)).put 11 (.int .i64 0)).put 12 (.int .u64 1)).put 14 (.slice none 0 0)).eq (cs' := ({ r with ro := 2, ld := r.id, bt := 0, rd := 1, rs := (none, 0, 0) } : Rf).cells) (by simp [Rf.cells, hid])
  have hk1 := (((((Keeps.refl [b] w).set (p := ⟨b, 6, none⟩) (by simp) (.int .i64 2)).set (p := ⟨b, 7, none⟩) (by simp) (.int .i64 id)).set (p := ⟨b, 11, none⟩) (by simp) (.int .i64 0)).set (p := ⟨b, 12, none⟩) (by simp) (.int .u64 1)).set (p := ⟨b, 14, none⟩) (by simp) (.slice none 0 0)
  generalize hW : World.setCell _ ⟨b, 14, none⟩ _ = w1 at *
  clear hW hc hl hf
  have hL1 := hL.keepB hk1 hB r.nostr (fun e => hbl e.symm)
  clear hB hL
  have hc := hB1.cell
  simp only [Rf.cells, hid, hn] at hc
  have hl := hB1.lt
  go_wp2_with fail
  refine (llastt r.lg g w1 hL1 hg0 (by omega)).mono ?_
  rintro e w2 ⟨rfl, hk2⟩
  have hB2 := hB1.keep hk2 (by simp)
  have hL2 := hL1.keep0 hk2
  have hk02 := hk1.trans hk2.of_nil
  clear hc hl hB1 hL1 hk1 hk2
  have hc := hB2.cell
  simp only [Rf.cells, hid, hn] at hc
  have hl := hB2.lt
  have hf := hB2.free
  have q1 : IntKind.u64.wrap (g.last + 1) = g.last + 1 := IntWalk.u64_in _ (by unfold Lg.last at *; omega)
  go_upto_region 3 with (fail)
  have hB3 := ((hB2.put 13 (.slice (some ⟨w2.heap.size, 0, none⟩) n n)).alloc (.cells (pcs (List.replicate n pz)).toArray 78)).eq (cs' := ({ r with ro := 2, ld := r.id, bt := 0, rd := 1, rs := (none, 0, 0), ps := (some ⟨w2.heap.size, 0, none⟩, n, n) } : Rf).cells) (by simp [Rf.cells])
  have hP3 := Blk.fresh_at (w2.setCell ⟨b, 13, none⟩ (.slice (some ⟨w2.heap.size, 0, none⟩) n n)) 78 (pcs (List.replicate n pz)).toArray (n := w2.heap.size) (by simp)
  have hks := ((Keeps.refl [b] w2).set (p := ⟨b, 13, none⟩) (by simp) (.slice (some ⟨w2.heap.size, 0, none⟩) n n)).alloc (.cells (pcs (List.replicate n pz)).toArray 78)
  have hL3 := hL2.keepB hks hB2 (Rf.nostr _) (fun e => hbl e.symm)
  have hk03 := hk02.trans hks
  have hpw : w.heap.size ≤ w2.heap.size := hk02.size
  generalize World.alloc (World.setCell w2 _ _) _ = w3 at *
  generalize w2.heap.size = pb at *
  clear hc hl hf hB2 hL2 hk02 hks mk
  have hR3 := RC.of hB3 hP3 hL3 (by simp)
  have hb3 := hk03.size
  generalize hNe : w3.heap.size = N at *
  clear hNe hB3 hP3 hL3
  have hc := hR3.B.cell
  simp only [Rf.cells, hid, hn] at hc
  have hl := hR3.B.lt
  go_wp2_with fail
  clear hc hl
  go_loopw [45] (fun v45 wr => ∃ k : Nat, v45 = .int .i64 (k : Int) ∧ k ≤ n ∧ RC wr N b pb { r with ro := 2, ld := r.id, bt := 0, rd := 1, rs := (none, 0, 0), ps := (some ⟨pb, 0, none⟩, n, n) } g (List.replicate k ⟨g.last + 1, 0, 0, 0⟩ ++ List.replicate (n - k) pz) ∧ Keeps [b] w wr) (fun v _ => n - (intOf v).toNat)
  case atStart => exact ⟨0, rfl, by omega, by simpa using hR3, hk03⟩
  case round =>
    obtain ⟨k, rfl, hk, hRk, hkk⟩ := hrel
    clear hR3 hk03
    by_cases hlt : k < n
    · have n1 : (k : Int) < (n : Int) := by omega
      have hc := hRk.B.cell
      simp only [Rf.cells, hid, hn] at hc
      have hl := hRk.B.lt
      have hlP := hRk.P.lt
      have hfP := hRk.P.free
      obtain ⟨c0, c1, c2, c3⟩ := pe_cells hRk.P (rep_at n k hlt _ _)
      have q2 : IntKind.i64.wrap ((k : Int) + 1) = k + 1 := IntWalk.i64_in _ (by omega)
      have hPz := Blk.pe (q := ⟨g.last + 1, 0, 0, 0⟩) hRk.P (rep_at n k hlt _ _) 0 (by omega) (v := .int .u64 (g.last + 1)) rfl
      rw [rep_set n k hlt] at hPz
      have hks := (Keeps.refl [pb] wr).set (p := ⟨pb, k * 4 + 0, none⟩) (by simp) (.int .u64 (g.last + 1))
      have hRz := hRk.turnP hks (fun x hx => .inl (by simpa using hx)) hPz (by simp; omega)
      have hkz := hkk.step hks (fun x hx => .inr (by simp at hx; omega))
      simp only [Nat.add_zero] at hRz hkz
      clear hPz hks hRk hkk
      go_wp2_with fail
      go_roundw
      case rel => exact ⟨k + 1, by simp, by omega, hRz, hkz⟩
      case measure => simp [intOf]; omega
    · obtain rfl : k = n := by omega
      simp only [Nat.sub_self, List.replicate_zero, List.append_nil] at hRk
      have hl := hRk.B.lt
      go_wp2_with fail
      have hfr : ({ r with ro := 2, ld := r.id, bt := 0, rd := 1, rs := (none, 0, 0), ps := (some ⟨pb, 0, none⟩, k, k) } : Rf).fr = 0 := hf0
      have hpk : (List.replicate k (⟨g.last + 1, 0, 0, 0⟩ : Pe))[id]? = some ⟨g.last + 1, 0, 0, 0⟩ := by rw [List.getElem?_replicate, if_pos hin]
      have hsz := hRk.size
      have hRk2 := hRk.grow hRk.size (Nat.le_refl _)
      refine (radds b pb _ g _ id ⟨g.last + 1, 0, 0, 0⟩ ⟨0, 0, 0, 0, ⟨#[]⟩⟩ wr hRk2 hid hpk hfr hg0 (by omega)).mono ?_
      rintro e w5 ⟨rfl, hR5, hk5⟩
      have hk05 : Keeps [b, r.lg] w w5 := (hkk.mono (by intro x hx; simp at hx; simp [hx])).step hk5 (by intro x hx; simp at hx ⊢; omega)
      clear hRk hRk2 hkk hk5 hl hpk
      have hc := hR5.B.cell
      simp only [Rf.cells, hid, hn] at hc
      have hl := hR5.B.lt
      have hlP := hR5.P.lt
      have hfP := hR5.P.free
      have hp5 : ((List.replicate k (⟨g.last + 1, 0, 0, 0⟩ : Pe)).set id { nx := g.last + 1, mt := g.last + 1, ak := 0, off := 0 })[id]? = some ⟨g.last + 1, g.last + 1, 0, 0⟩ := by rw [List.getElem?_set_self (by simpa using hin)]
      obtain ⟨c0, c1, c2, c3⟩ := pe_cells hR5.P hp5
      have n1 : (id : Int) < (k : Int) := by omega
      go_wp2_with fail
      refine wp_region_still_tail 14 (by kernel_rfl) (by kernel_rfl) ?_
      change wpStill _ _ (World.drew _) _ _ _
      simp only [List.take_succ_cons, List.take_zero, List.drop_succ_cons, List.drop_zero]
      repeat still_step
      refine wpStill_nil ?_
      change wpList _ _ _ _ _ (World.drew _)
      go_upto_region 10 with (fail)
      have hPz := (Blk.pe (q := ⟨g.last + 1, g.last + 1, 1, 0⟩) hR5.P hp5 2 (by omega) (v := .int .u64 1) rfl).drew
      rw [List.set_set] at hPz
      have hks := ((Keeps.refl [pb] w5).set (p := ⟨pb, id * 4 + 2, none⟩) (by simp) (.int .u64 1)).drew
      have hR6 := hR5.turnP hks (fun x hx => .inl (by simpa using hx)) (ps' := ledPs id k g.last) hPz (by simp [ledPs])
      have hk06 := hk05.step hks (fun x hx => .inr (by simp at hx; omega))
      clear hc hl hlP hfP c0 c1 c2 c3 hPz hks hR5 hk05 hp5
      generalize World.drew (World.setCell w5 _ _) = w6 at *
      have hR7 : RC w6 w5.heap.size b pb (r.led0 pb k (g.last + 1)) (g.snoc ⟨r.tm, 0, 0, 0, ⟨#[]⟩⟩) (ledPs id k g.last) := hR6
      clear hR6
      have hlen := led_len id k g.last
      have hgl : (g.snoc ⟨r.tm, 0, 0, 0, ⟨#[]⟩⟩).last = g.last + 1 := Lg.snoc_last _ _
      have hms' : (r.ledN pb id k g).ms = (none, 0, 0) := hms
      have C := rcounts w5.heap.size b pb (r.led0 pb k (g.last + 1)) (g.snoc ⟨r.tm, 0, 0, 0, ⟨#[]⟩⟩) (ledPs id k g.last) w6 hR7 (by rw [hlen]; exact hn) (by rw [hlen]; exact h7) hg0 (by rw [hgl]; omega) hgb (by rw [hgl]; show r.cm ≤ _; omega)
      have hl := hR7.B.lt
      clear hR7
      go_wp2_with fail
      refine C.mono ?_
      rintro e w7 ⟨rfl, hR8, hk7⟩
      clear C hl
      have hk07 := hk06.trans (hk7.mono (L' := [b, r.lg]) (by intro x hx; simp at hx; simp [hx]))
      have hR9 : RC w7 w7.heap.size b pb (r.ledN pb id k g) (g.snoc ⟨r.tm, 0, 0, 0, ⟨#[]⟩⟩) (ledPs id k g.last) := hR8.grow hR8.size (Nat.le_refl _)
      have F := rfeedsAll b pb (r.ledN pb id k g) (g.snoc ⟨r.tm, 0, 0, 0, ⟨#[]⟩⟩) (ledPs id k g.last) id w7 hR9 hms' hid (by rw [hlen]; exact hn) (by rw [hlen]; exact h7)
        (fun j p hp hj => by rw [led_at hp hj, hgl]; exact ⟨by show g.base < g.last + 1; omega, by show g.last + 1 ≤ _; omega⟩) hg0 (by rw [hgl]; omega)
      rw [hlen] at F
      have hl := hR9.B.lt
      clear hR8 hR9 hk06 hk7
      go_wp2_with fail
      refine F.mono ?_
      rintro e w8 ⟨ao, c, ys, rfl, hR10, hO10, hF10, hk8⟩
      clear F hl
      go_wp2_with fail
      go_end0
      exact ⟨pb, w7.heap.size, ao, c, ys, rfl, hpw, hk07.size, hR10, hO10, hF10, hk07.trans (hk8.mono (by intro x hx; simp at hx; simp [hx]))⟩
end Go.Proofs.YtdeaelbelcjhcaaDoor
