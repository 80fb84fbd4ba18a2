/- A node of a group: stands. -/
import Derived.Test.YtdeaelbelcjhcaaDoorRaft27
import Derived.Test.YtdeaelbelcjhcaaDoorRaft6


namespace Go.Proofs.YtdeaelbelcjhcaaDoor
open Go.RowKit

theorem Tryd.mkBoolsN (n : Nat) (h7 : n ≤ 7) (w : World) : (Instr.makeSlice 59 (.int .i64 (n : Int)) (.int .i64 (n : Int))).run Tryd.prog w = .ok (.slice (some ⟨w.heap.size, 0, none⟩) n n) (w.alloc (.cells (bls (List.replicate n false)).toArray 4)) := by
  obtain rfl | rfl | rfl | rfl | rfl | rfl | rfl | rfl : n = 0 ∨ n = 1 ∨ n = 2 ∨ n = 3 ∨ n = 4 ∨ n = 5 ∨ n = 6 ∨ n = 7 := by omega
  all_goals kernel_rfl

/-- a question for a vote, as it is built -/
def vmsg0 (i : Nat) (ix lt : Int) : List Value := [.int .i64 1, .int .i64 0, .int .i64 (i : Int), .int .u64 0, .int .u64 ix, .int .u64 lt, .slice none 0 0, .int .u64 0, .int .u64 0, .bool false, .int .i64 0, .slice none 0 0, .bool false, .int .u64 0, .int .u64 0, .string ⟨#[]⟩, .int .u64 0, .int .i64 0, .slice none 0 0, .slice none 0 0, .int .i64 0, .int .u64 0, .int .i64 0]

theorem built_V (i : Nat) (ix lt : Int) :
    Tryd.prog.built 49 [(0, .int .i64 1), (2, .int .i64 (i : Int)), (4, .int .u64 ix), (5, .int .u64 lt)] = some (vmsg0 i ix lt).toArray := by kernel_rfl

def own1 (id n : Nat) : List Bool := (List.replicate n false).set id true
theorem own1_len (id n : Nat) : (own1 id n).length = n := by simp [own1]
theorem yes_replicate (n : Nat) : yes (List.replicate n false) = 0 := by simp [yes]
theorem yes_set {l : List Bool} {k : Nat} (h : l[k]? = some false) : yes (l.set k true) = yes l + 1 := by
  induction l generalizing k with
  | nil => simp at h
  | cons a l ih =>
    cases k with
    | zero =>
      simp at h
      subst h
      simp [yes]
    | succ k =>
      simp only [List.getElem?_cons_succ] at h
      have := ih h
      simp only [yes] at this ⊢
      cases a <;> simp [this]
theorem yes_own1 {id n : Nat} (h : id < n) : yes (own1 id n) = 1 := by
  unfold own1
  rw [yes_set (by rw [List.getElem?_replicate, if_pos h]), yes_replicate]

/-- a candidate -/
def Rf.cand (r : Rf) (vb n : Nat) (d : Int) : Rf := { r with tm := r.tm + 1, vt := r.id, ro := 1, ld := -1, rs := (none, 0, 0), el := 0, tmo := 10 + d.tmod 20 % 20, vs := (some ⟨vb, 0, none⟩, n, n) }

set_option maxRecDepth 100000 in
set_option maxHeartbeats 8000000 in
theorem rstands (b id n : Nat) (r : Rf) (g : Lg) (d : Int) (w : World) (hB : Blk w b 63 r.cells) (hL : LogAt w r.lg g) (hid : r.id = (id : Int)) (hn : r.n = (n : Int)) (hin : id < n) (h2 : 2 ≤ n) (h7 : n ≤ 7) (hms : r.ms = (none, 0, 0)) (hg0 : 0 ≤ g.base) (hg1 : g.last < 900000) (ht0 : 0 ≤ r.tm) (ht1 : r.tm < 1000000) :
    Calls Tryd.prog 20 #[.pointer (some ⟨b, 0, none⟩), .int .i64 d] w fun e w' => ∃ vb m, e = .returned (.tuple #[]) ∧ w.heap.size ≤ vb ∧
      Blk w' b 63 ({ r.cand vb n d with ms := m } : Rf).cells ∧ Blk w' vb 4 (bls (own1 id n)).toArray ∧ LogAt w' r.lg g ∧ Keeps [b] w w' := by
  have hc := hB.cell
  simp only [Rf.cells, hid, hn] at hc
  have hl := hB.lt
  have hf := hB.free
  have mk := Tryd.mkBoolsN n h7
  have q1 : IntKind.u64.wrap (r.tm + 1) = r.tm + 1 := IntWalk.u64_in _ (by omega)
  have hbl : b ≠ r.lg := by rintro rfl; obtain ⟨_, _, hL0, _, _⟩ := hL; exact absurd rfl (hB.ne hL0 (by decide))
  go_enter Tryd.func20, Tryd.ntmps20
  go_wp2_with fail
  refine wp_region_still_tail 14 (by kernel_rfl) (by kernel_rfl) ?_
  change wpStill _ _ (World.drew _) _ _ _
  simp only [List.take_succ_cons, List.take_zero, List.drop_succ_cons, List.drop_zero]
  repeat still_step
  refine wpStill_nil ?_
  change wpList _ _ _ _ _ (World.drew _)
  go_upto_region 1 with (fail)
  have hB1 := (((hB.put 2 (.int .u64 (r.tm + 1))).put 3 (.int .i64 id)).eq (cs' := ({ r with tm := r.tm + 1, vt := r.id } : Rf).cells) (by simp [Rf.cells, hid])).drew
  have hk1 := (((Keeps.refl [b] w).set (p := ⟨b, 2, none⟩) (by simp) (.int .u64 (r.tm + 1))).set (p := ⟨b, 3, none⟩) (by simp) (.int .i64 id)).drew
  generalize World.drew (World.setCell _ _ _) = w1 at *
  have hL1 := hL.keepB hk1 hB r.nostr (fun e => hbl e.symm)
  clear hB hL hc hl hf
  go_wp2_with fail
  refine (rfollows b _ (-1) w1 hB1).mono ?_
  rintro e w2 ⟨rfl, hB2, hk2⟩
  have hL2 := hL1.keepB hk2 hB1 (Rf.nostr _) (fun e => hbl e.symm)
  have hk02 := hk1.trans hk2
  clear hB1 hL1 hk1 hk2
  have hc := hB2.cell
  simp only [Rf.cells] at hc
  have hl := hB2.lt
  have hf := hB2.free
  go_upto_region 3 with (fail)
  have hB3 := ((hB2.put 6 (.int .i64 1)).put 8 (.int .i64 0)).eq (cs' := ({ r with tm := r.tm + 1, vt := r.id, ro := 1, ld := -1, rs := (none, 0, 0), vs := (none, 0, 0), el := 0 } : Rf).cells) (by simp [Rf.cells])
  have hks := ((Keeps.refl [b] w2).set (p := ⟨b, 6, none⟩) (by simp) (.int .i64 1)).set (p := ⟨b, 8, none⟩) (by simp) (.int .i64 0)
  generalize World.setCell (World.setCell w2 _ _) _ _ = w3 at *
  have hL3 := hL2.keepB hks hB2 (Rf.nostr _) (fun e => hbl e.symm)
  have hk03 := hk02.trans hks
  clear hc hl hf hB2 hL2 hk02 hks
  go_wp2_with fail
  refine (rdraws b _ d w3 hB3).mono ?_
  rintro e w4 ⟨rfl, hB4, hk4⟩
  have hL4 := hL3.keepB hk4 hB3 (Rf.nostr _) (fun e => hbl e.symm)
  have hk04 := hk03.trans hk4
  clear hB3 hL3 hk03 hk4
  have hc := hB4.cell
  simp only [Rf.cells, hid, hn] at hc
  have hl := hB4.lt
  have hf := hB4.free
  go_upto_region 5 with (fail)
  have hB5 := ((hB4.put 10 (.slice (some ⟨w4.heap.size, 0, none⟩) n n)).alloc (.cells (bls (List.replicate n false)).toArray 4)).eq (cs' := (r.cand w4.heap.size n d).cells) (by simp [Rf.cells, Rf.cand])
  have hV5 := Blk.fresh_at (w4.setCell ⟨b, 10, none⟩ (.slice (some ⟨w4.heap.size, 0, none⟩) n n)) 4 (bls (List.replicate n false)).toArray (n := w4.heap.size) (by simp)
  have hks := ((Keeps.refl [b] w4).set (p := ⟨b, 10, none⟩) (by simp) (.slice (some ⟨w4.heap.size, 0, none⟩) n n)).alloc (.cells (bls (List.replicate n false)).toArray 4)
  have hL5 := hL4.keepB hks hB4 (Rf.nostr _) (fun e => hbl e.symm)
  have hk05 := hk04.trans hks
  have hvw : w.heap.size ≤ w4.heap.size := hk04.size
  have hvb : w4.heap.size ≠ b := by omega
  have hvl : w4.heap.size ≠ r.lg := by have := hL4.lt; omega
  generalize World.alloc (World.setCell w4 _ _) _ = w5 at *
  generalize w4.heap.size = vb at *
  clear hc hl hf hB4 hL4 hk04 hks mk
  have hc := hB5.cell
  simp only [Rf.cells, Rf.cand, hid, hn] at hc
  have hl := hB5.lt
  have hcV := bls_cell hV5 (k := id) (x := false) (by rw [List.getElem?_replicate, if_pos hin])
  have hlV := hV5.lt
  have hfV := hV5.free
  have n1 : (id : Int) < (n : Int) := by omega
  refine wp_region_still_tail 9 (by kernel_rfl) (by kernel_rfl) ?_
  change wpStill _ _ (World.drew _) _ _ _
  simp only [List.take_succ_cons, List.take_zero, List.drop_succ_cons, List.drop_zero]
  repeat still_step
  refine wpStill_nil ?_
  change wpList _ _ _ _ _ (World.drew _)
  go_upto_region 6 with (fail)
  have hB6 := (hB5.other (p := ⟨vb, id, none⟩) (fun e => hvb e.symm) (.bool true)).drew
  have hV6 := ((hV5.put id (.bool true)).eq (cs' := (bls (own1 id n)).toArray) (by rw [bls_set]; rfl)).drew
  have hks := ((Keeps.refl [vb] w5).set (p := ⟨vb, id, none⟩) (by simp) (.bool true)).drew
  have hL6 := hL5.keepB hks hV5 (by intro v hv s e; subst e; simp [bls] at hv) (fun e => hvl e.symm)
  have hk06 : Keeps [b] w (w5.setCell ⟨vb, id, none⟩ (.bool true)).drew := hk05.step hks (by intro x hx; simp at hx; right; omega)
  generalize World.drew (World.setCell w5 _ _) = w6 at *
  clear hc hl hcV hlV hfV hB5 hV5 hks hL5 hk05
  have HE := relected_no b vb (r.cand vb n d) (own1 id n) w6 hB6 ⟨hV6, by rw [own1_len]; rfl⟩ (by rw [own1_len]; exact h7) (by rw [yes_own1 hin]; show _ ≤ r.n; omega)
  have hl := hB6.lt
  go_wp2_with fail
  refine HE.mono ?_
  rintro e w' ⟨rfl, hw⟩
  obtain rfl := hw.symm
  clear hw HE
  have hc := hB6.cell
  simp only [Rf.cells, Rf.cand, hid, hn] at hc
  go_wp2_with fail
  refine (llastt r.lg g w6 hL6 hg0 (by omega)).mono ?_
  rintro e w7 ⟨rfl, hk7⟩
  have hB7 := hB6.keep hk7 (by simp)
  have hV7 := hV6.keep hk7 (by simp)
  have hL7 := hL6.keep0 hk7
  have hk07 := hk06.trans hk7.of_nil
  clear hB6 hV6 hL6 hk06 hk7 hc hl
  generalize g.at g.last = gt at *
  have hl := hB7.lt
  have HO := rothers b (r.cand vb n d) id n w7 hB7 hid hn h7
  have hol := oth_le id n
  obtain ⟨l, hle⟩ : ∃ l, oth id n = l := ⟨_, rfl⟩
  rw [hle] at HO hol
  clear hle
  go_wp2_with fail
  refine HO.mono ?_
  rintro e w8 ⟨lo, lc, rfl, hI8, hk8⟩
  clear HO
  have hB8 := hB7.keep hk8 (by simp)
  have hV8 := hV7.keep hk8 (by simp)
  have hL8 := LogIn.of (hL7.keep0 hk8) hB8 (Rf.nostr _) hV8 (by intro v hv s e; subst e; simp [bls] at hv) (by decide) (by decide)
  have hk08 := hk07.trans hk8.of_nil
  have hv8 := hV8.lt
  have hb8 := hB8.lt
  have hN8 : w.heap.size ≤ w8.heap.size := hk08.size
  have hI8' : w8.ownsRow w7.heap.size 3 1 (.slice lo l.length lc) l.length (nats l) := hI8
  generalize hNe : w8.heap.size = N at *
  have hNN : N ≤ w8.heap.size := by omega
  have hbo : ∀ x ∈ blks lo, x < N := fun x hx => by have := own_lt hI8 x hx; omega
  have hxo := own_lt hI8
  have hb7 := hB7.lt
  clear hB7 hV7 hL7 hk07 hk8 hl hI8 hNe
  have hms8 : (r.cand vb n d).ms = (none, 0, 0) := hms
  have hB8' : Blk w8 b 63 ({ r.cand vb n d with ms := (none, 0, 0) } : Rf).cells := by rw [← hms8]; exact hB8
  clear hms8 hB8
  go_wp2_with fail
  go_loopw [63] (fun v63 wr => ∃ (k : Nat) (m : Sl3) (ys : List Value), v63 = .int .i64 (k : Int) ∧ k ≤ l.length ∧ m.2.1 = k ∧ Blk wr b 63 ({ r.cand vb n d with ms := m } : Rf).cells ∧ Blk wr vb 4 (bls (own1 id n)).toArray ∧ LogIn wr N [b, vb] r.lg g ∧ Ow wr N m ys ∧
      wr.ownsRow w7.heap.size 3 1 (.slice lo l.length lc) l.length (nats l) ∧ N ≤ wr.heap.size ∧ Keeps [b] w wr) (fun v _ => l.length - (intOf v).toNat)
  case atStart => exact ⟨0, (none, 0, 0), [], rfl, by omega, rfl, hB8', hV8, hL8, Ow.nil _ _, hI8', hNN, hk08⟩
  case round =>
    obtain ⟨k, m, ys, rfl, hk, hmk, hBk, hVk, hLk, hOk, hIk, hNk, hkk⟩ := hrel
    clear hB8' hV8 hL8 hI8' hNN hk08
    have hl := hBk.lt
    by_cases hlt : k < l.length
    · have n2 : (k : Int) < (l.length : Int) := by omega
      obtain ⟨ao', c', he, hSl, _⟩ := own_sl hIk (nats_one l)
      simp only [Value.slice.injEq, true_and] at he
      obtain ⟨rfl, rfl⟩ := he
      obtain ⟨bb, o, rfl⟩ := hSl.at (by have := hSl.cap; omega)
      have hcell := hSl.cell _ rfl k (.int .i64 (l[k] : Nat)) (by simp [nats, hlt])
      generalize l[k] = i at *
      have q3 : IntKind.i64.wrap ((k : Int) + 1) = k + 1 := IntWalk.i64_in _ (by omega)
      have HF := Lib.hid (rsendsG N b { r.cand vb n d with ms := m } (vmsg0 i g.last gt) ys wr rfl (by simp [vmsg0, Value.oneCell']) hBk hOk hb8 hNk (by simp only []; omega))
      have HMK := Lib.hid hmk
      clear hmk hSl
      go_wp2_with (refine wpList_built rfl 49 _ rfl _ _ (built_V i g.last gt) rfl ?_)
      refine HF.out.mono ?_
      rintro e w2 ⟨ao, c, rfl, hB2, hO2, hk2⟩
      clear HF
      have hI2 := own_keep hIk hk2 (fun x hx => by
        have h1 := own_lt hIk x hx
        have h2 := own_ne2 hIk hOk (by decide) x hx
        simp only [List.mem_cons, not_or]
        exact ⟨fun e => by omega, h2⟩)
      have hV2 := hVk.keep hk2 (by
        simp only [List.mem_cons, not_or]
        exact ⟨hvb, fun hx => by have := (own_lt hOk _ hx).1; omega⟩)
      have hL2 := hLk.keep hk2 (fun x hx => by
        rcases List.mem_cons.1 hx with e | hx
        · exact .inl (by simp [e])
        · exact .inr (own_lt hOk x hx).1)
      have hkk2 := hkk.step hk2 (fun x hx => by
        rcases List.mem_cons.1 hx with e | hx
        · exact .inl (by simp [e])
        · have := (own_lt hOk x hx).1; exact .inr (by omega))
      have hN2 := Nat.le_trans hNk hk2.size
      clear hk2 hcell hIk hOk hVk hLk hkk hBk
      go_wp2_with fail
      go_roundw
      case rel => exact ⟨k + 1, (ao, m.2.1 + 1, c), _, by simp, by omega, by have := HMK.out; simp only []; omega, hB2, hV2, hL2, hO2, hI2, hN2, hkk2⟩
      case measure => simp [intOf]; omega
    · obtain rfl : k = l.length := by omega
      go_wp2_with fail
      go_end0
      exact ⟨rfl, vb, hvw, ⟨m.1, m.2.1, m.2.2, hBk⟩, hVk, hLk.at, hkk⟩
end Go.Proofs.YtdeaelbelcjhcaaDoor
