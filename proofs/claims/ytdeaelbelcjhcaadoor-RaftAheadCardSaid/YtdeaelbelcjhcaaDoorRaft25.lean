/- A node of a group: adds; counts. -/
import Derived.Test.YtdeaelbelcjhcaaDoorRaft24
import Derived.Test.YtdeaelbelcjhcaaDoorRaft4


namespace Go.Proofs.YtdeaelbelcjhcaaDoor
open Go.RowKit

/-- a field of a node's row is written -/
theorem Blk.pe {w : World} {pb : Nat} {ps : List Pe} {i : Nat} {p q : Pe} {v : Value} (hP : Blk w pb 78 (pcs ps).toArray) (hp : ps[i]? = some p) (k : Nat) (hk : k < 4) (hq : p.cells.set k v = q.cells) :
    Blk (w.setCell ⟨pb, i * 4 + k, none⟩ v) pb 78 (pcs (ps.set i q)).toArray :=
  (hP.put (i * 4 + k) v).eq (by rw [List.setIfInBounds_toArray, pcs_set hp k v hk hq])

set_option maxRecDepth 100000 in
set_option maxHeartbeats 4000000 in
theorem radds (b pb : Nat) (r : Rf) (g : Lg) (ps : List Pe) (id : Nat) (p : Pe) (en : En) (w : World) (hR : RC w w.heap.size b pb r g ps) (hid : r.id = (id : Int)) (hp : ps[id]? = some p) (hf0 : r.fr = 0) (hg0 : 0 ≤ g.base) (hg1 : g.last < 900000) :
    Calls Tryd.prog 37 #[.pointer (some ⟨b, 0, none⟩), .agg #[.int .u64 (en).term, .int .i64 (en).kind, .int .u64 (en).client, .int .u64 (en).seq, .string (en).sql]] w fun e w' => e = .returned (.int .u64 (g.last + 1)) ∧ RC w' w'.heap.size b pb { r with fr := g.last + 1 } { g with es := g.es ++ [{ en with term := r.tm }] } (ps.set id { p with mt := g.last + 1 }) ∧ Keeps [b, pb, r.lg] w w' := by
  obtain ⟨hil, hpe⟩ := List.getElem?_eq_some_iff.1 hp
  have hiL : (id : Int) < (ps.length : Int) := by omega
  clear hil hpe
  have hB := hR.B
  have hP := hR.P
  have hL := hR.L.at
  have hps := hR.hps
  have hbp := hR.ne
  have hlx := hR.L.notX
  simp only [List.mem_cons, List.not_mem_nil, or_false, not_or] at hlx
  obtain ⟨hlb', hlp'⟩ := hlx
  clear hR
  have hc := hB.cell
  simp only [Rf.cells, hid, hps] at hc
  have hl := hB.lt
  have hB1 := hB.alloc (.cells #[.int .u64 ({ en with term := r.tm }).term, .int .i64 ({ en with term := r.tm }).kind, .int .u64 ({ en with term := r.tm }).client, .int .u64 ({ en with term := r.tm }).seq, .string ({ en with term := r.tm }).sql] 69)
  have hP1 := hP.alloc (.cells #[.int .u64 ({ en with term := r.tm }).term, .int .i64 ({ en with term := r.tm }).kind, .int .u64 ({ en with term := r.tm }).client, .int .u64 ({ en with term := r.tm }).seq, .string ({ en with term := r.tm }).sql] 69)
  have hX := Blk.fresh w 69 #[.int .u64 ({ en with term := r.tm }).term, .int .i64 ({ en with term := r.tm }).kind, .int .u64 ({ en with term := r.tm }).client, .int .u64 ({ en with term := r.tm }).seq, .string ({ en with term := r.tm }).sql]
  have hk1 := (Keeps.refl [b, pb, r.lg] w).alloc (.cells #[.int .u64 ({ en with term := r.tm }).term, .int .i64 ({ en with term := r.tm }).kind, .int .u64 ({ en with term := r.tm }).client, .int .u64 ({ en with term := r.tm }).seq, .string ({ en with term := r.tm }).sql] 69)
  have hL1 := hL.keep0 ((Keeps.refl [] w).alloc (.cells #[.int .u64 ({ en with term := r.tm }).term, .int .i64 ({ en with term := r.tm }).kind, .int .u64 ({ en with term := r.tm }).client, .int .u64 ({ en with term := r.tm }).seq, .string ({ en with term := r.tm }).sql] 69))
  go_enter Tryd.func37, Tryd.ntmps37
  go_wp2_with fail
  refine wp_region_still_tail 5 (by kernel_rfl) (by kernel_rfl) ?_
  change wpStill _ _ (World.drew _) _ _ _
  simp only [List.take_succ_cons, List.take_zero, List.drop_succ_cons, List.drop_zero]
  repeat still_step
  refine wpStill_nil ?_
  change wpList _ _ _ _ _ (World.drew _)
  go_wp2_with fail
  refine (ladd r.lg g { en with term := r.tm } _ (LogAt.keep0 hL1 ((Keeps.refl [] _).drew)) hg0 (by omega)).mono ?_
  rintro e w2 ⟨rfl, hL2, hk2⟩
  have hB2 := hB1.drew.keep hk2 (by simpa using fun e => hlb' e.symm)
  have hP2 := hP1.drew.keep hk2 (by simpa using fun e => hlp' e.symm)
  have hk02 : Keeps [b, pb, r.lg] w w2 := hk1.drew.trans (hk2.mono (by intro x hx; simp at hx; simp [hx]))
  clear hc hl hX hB1 hP1 hk1 hL1 hk2
  go_wp2_with fail
  refine (rchanged b r (g.last + 1) w2 hB2 (by unfold Lg.last; omega) hf0).mono ?_
  rintro e w3 ⟨rfl, hB3, hk3⟩
  have hP3 := hP2.keep hk3 (by simpa using fun e => hbp e.symm)
  have hL3 := LogAt.keepB hL2 hk3 hB2 r.nostr hlb'
  have hk03 : Keeps [b, pb, r.lg] w w3 := hk02.trans (hk3.mono (by intro x hx; simp at hx; simp [hx]))
  clear hB2 hP2 hL2 hk3 hk02
  have hc := hB3.cell
  simp only [Rf.cells, hid, hps] at hc
  have hl := hB3.lt
  obtain ⟨c0, c1, c2, c3⟩ := pe_cells hP3 hp
  have hlP := hP3.lt
  have hfP := hP3.free
  go_wp2_with fail
  refine wp_region_still_tail 11 (by kernel_rfl) (by kernel_rfl) ?_
  change wpStill _ _ (World.drew _) _ _ _
  simp only [List.take_succ_cons, List.take_zero, List.drop_succ_cons, List.drop_zero]
  repeat still_step
  refine wpStill_nil ?_
  change wpList _ _ _ _ _ (World.drew _)
  go_wp2_with fail
  go_ret
  have hks := ((Keeps.refl [pb] w3).set (p := ⟨pb, id * 4 + 1, none⟩) (by simp) (.int .u64 (g.last + 1))).drew
  have hPz := (Blk.pe (q := { p with mt := g.last + 1 }) hP3 hp 1 (by omega) (v := .int .u64 (g.last + 1)) rfl).drew
  have hBz := (hB3.other (p := ⟨pb, id * 4 + 1, none⟩) hbp (.int .u64 (g.last + 1))).drew
  have hLz := LogAt.keepB hL3 hks hP3 (pcs_nostr ps) hlp'
  exact ⟨rfl, RC.of hBz hPz hLz (by simpa using hps), hk03.trans (hks.mono (by intro x hx; simp at hx; simp [hx]))⟩

/-- how many have the entry i -/
def have_ (ps : List Pe) (i : Int) : Nat := (ps.filter fun p => decide (i ≤ p.mt)).length
theorem have_take {ps : List Pe} {k : Nat} {p : Pe} (h : ps[k]? = some p) (i : Int) : have_ (ps.take (k + 1)) i = have_ (ps.take k) i + (if i ≤ p.mt then 1 else 0) := by
  obtain ⟨hl, rfl⟩ := List.getElem?_eq_some_iff.1 h
  unfold have_
  rw [List.take_succ_eq_append_getElem hl, List.filter_append, List.length_append]
  congr 1
  split
  · rename_i h1
    simp [h1]
  · rename_i h1
    simp [h1]
theorem have_le (ps : List Pe) (i : Int) : have_ ps i ≤ ps.length := List.length_filter_le _ _
def okc (g : Lg) (tm n : Int) (ps : List Pe) (i : Int) : Bool := (g.at i == tm) && decide (n < 2 * (have_ ps i : Int))
def cntUp (ok : Int → Bool) (cm : Int) : Nat → Int
  | 0 => cm
  | k + 1 => if ok (cm + (k + 1 : Nat)) then cm + (k + 1 : Nat) else cntUp ok cm k
/-- up to where all is agreed -/
def counted (r : Rf) (g : Lg) (ps : List Pe) : Int := cntUp (okc g r.tm r.n ps) r.cm (g.last - r.cm).toNat

set_option maxRecDepth 100000 in
set_option maxHeartbeats 8000000 in
theorem rcounts (N b pb : Nat) (r : Rf) (g : Lg) (ps : List Pe) (w : World) (hR : RC w N b pb r g ps) (hn : r.n = (ps.length : Int)) (h7 : ps.length ≤ 7) (hg0 : 0 ≤ g.base) (hg1 : g.last < 900000) (hgb : g.base ≤ r.cm) (hgc : r.cm ≤ g.last) :
    Calls Tryd.prog 38 #[.pointer (some ⟨b, 0, none⟩)] w fun e w' => e = .returned (.tuple #[]) ∧ RC w' N b pb { r with cm := counted r g ps } g ps ∧ Keeps [b] w w' := by
  have hc := hR.B.cell
  simp only [Rf.cells, hR.hps] at hc
  have hl := hR.B.lt
  obtain ⟨cm', hcm⟩ : ∃ cm', counted r g ps = cm' := ⟨_, rfl⟩
  rw [hcm]
  obtain ⟨K, hK⟩ : ∃ K : Nat, g.last = r.cm + (K : Int) := ⟨(g.last - r.cm).toNat, by omega⟩
  have hcm2 : cntUp (okc g r.tm r.n ps) r.cm K = cm' := by
    rw [← hcm]; unfold counted; congr 1; omega
  have HCM := Lib.hid hcm2
  have HK := Lib.hid hK
  clear hcm hcm2 hK
  go_enter Tryd.func38, Tryd.ntmps38
  go_wp2_with fail
  refine (llastt r.lg g w hR.L.at hg0 (by omega)).mono ?_
  rintro e w1 ⟨rfl, hk1⟩
  have hR1 := hR.keep0 hk1
  clear hc hl hR
  rw [HK.out]
  go_wp2_with fail
  go_loopw [4] (fun v4 wr => ∃ k : Nat, v4 = .int .u64 (r.cm + (k : Int)) ∧ k ≤ K ∧ cntUp (okc g r.tm r.n ps) r.cm k = cm' ∧ RC wr N b pb r g ps ∧ Keeps [] w wr) (fun v _ => (intOf v).toNat)
  case atStart => exact ⟨K, rfl, Nat.le_refl _, HCM.out, hR1, hk1⟩
  case round =>
    obtain ⟨k, rfl, hk, hcn, hRk, hkk⟩ := hrel
    clear hR1 hk1 HCM
    have hc := hRk.B.cell
    simp only [Rf.cells, hRk.hps] at hc
    have hl := hRk.B.lt
    have HCN := Lib.hid hcn
    clear hcn
    cases k with
    | zero =>
      have e0 := HCN.out
      simp only [cntUp] at e0
      have E0 := Lib.hid e0
      clear e0 HCN
      simp only [Int.natCast_zero, Int.add_zero]
      go_wp2_with fail
      go_end0
      refine ⟨rfl, ?_, hkk.of_nil⟩
      rw [← E0.out]
      exact hRk
    | succ k =>
      obtain ⟨i, hi⟩ : ∃ i, r.cm + ((k + 1 : Nat) : Int) = i := ⟨_, rfl⟩
      have hci : cntUp (okc g r.tm r.n ps) r.cm (k + 1) = if okc g r.tm r.n ps i then i else cntUp (okc g r.tm r.n ps) r.cm k := by simp only [cntUp, hi]
      have HCI := Lib.hid hci
      clear hci
      rw [hi]
      have i0 : r.cm < i := by omega
      have i1 : i ≤ g.last := by have := HK.out; omega
      have HIK := Lib.hid (show i - 1 = r.cm + (k : Int) by omega)
      have q1 : IntKind.u64.wrap (i - 1) = i - 1 := IntWalk.u64_in _ (by omega)
      have hkK : k ≤ K := by omega
      clear hi hk
      have HT := Lib.hid (lterm_any r.lg g i wr hRk.L.at hg0 (by omega) (by omega) i1)
      go_wp2_with fail
      refine HT.out.mono ?_
      rintro e w2 ⟨rfl, m, rfl⟩
      clear HT hc hl
      have hR2 := hRk.keep0 ((Keeps.refl [] wr).drewN m)
      have hk2 := hkk.drewN m
      generalize World.drewN wr m = w2 at *
      clear hRk hkk
      have hc := hR2.B.cell
      simp only [Rf.cells, hR2.hps] at hc
      have hl := hR2.B.lt
      by_cases hat : g.at i = r.tm
      rotate_left
      · have hat2 : (g.at i == r.tm) = false := by simpa using hat
        have hn2 : cntUp (okc g r.tm r.n ps) r.cm k = cm' := by rw [← HCN.out, HCI.out]; simp [okc, hat2]
        have HN := Lib.hid hn2
        clear HCN HCI hat hn2
        go_wp2_with fail
        go_roundw
        case rel => exact ⟨k, by rw [HIK.out], hkK, HN.out, hR2, hk2⟩
        case measure => simp [intOf]; omega
      have HAT := Lib.hid hat
      rw [hat]
      clear hat
      go_wp2_with fail
      clear hc hl
      go_loopw [7, 52] (fun v7 v52 wr => ∃ j : Nat, v52 = .int .i64 (j : Int) ∧ j ≤ ps.length ∧ v7 = .int .i64 ((have_ (ps.take j) i : Nat) : Int) ∧ RC wr N b pb r g ps ∧ Keeps [] w wr) (fun _ v _ => ps.length - (intOf v).toNat)
      case atStart => exact ⟨0, rfl, by omega, by simp [have_], hR2, hk2⟩
      case round =>
        obtain ⟨j, rfl, hj, rfl, hRj, hkj⟩ := hrel
        clear hR2 hk2
        have hlB := hRj.B.lt
        have hlP := hRj.P.lt
        by_cases hlt : j < ps.length
        · have n1 : (j : Int) < (ps.length : Int) := by omega
          obtain ⟨p, hp⟩ : ∃ p, ps[j]? = some p := ⟨_, List.getElem?_eq_getElem hlt⟩
          obtain ⟨c0, c1, c2, c3⟩ := pe_cells hRj.P hp
          have ht := have_take hp i
          have HP := Lib.hid (And.intro hp ht)
          have hle := have_le (ps.take j) i
          rw [List.length_take] at hle
          have q2 : IntKind.i64.wrap ((j : Int) + 1) = j + 1 := IntWalk.i64_in _ (by omega)
          clear hp ht
          have hkm := (Keeps.refl [] wr).alloc (.cells #[.int .u64 p.nx, .int .u64 p.mt, .int .u64 p.ak, .int .i64 p.off] 78)
          have hRm := hRj.keep0 hkm
          have hkj2 := hkj.trans hkm
          clear hkm
          by_cases him : i ≤ p.mt
          · have q3 : IntKind.i64.wrap (((have_ (ps.take j) i : Nat) : Int) + 1) = ((have_ (ps.take j) i + 1 : Nat) : Int) := IntWalk.i64_in _ (by omega)
            have HE : have_ (ps.take (j + 1)) i = have_ (ps.take j) i + 1 := by rw [HP.out.2, if_pos him]
            have HE2 := Lib.hid HE
            clear HE HP hle
            generalize have_ (ps.take j) i = hv at *
            go_wp2_with fail
            go_roundw
            case rel => exact ⟨j + 1, by simp, by omega, by rw [HE2.out]; simp, hRm, hkj2⟩
            case measure => simp [intOf]; omega
          · have HE : have_ (ps.take (j + 1)) i = have_ (ps.take j) i := by rw [HP.out.2, if_neg him]; omega
            have HE2 := Lib.hid HE
            clear HE HP hle
            generalize have_ (ps.take j) i = hv at *
            go_wp2_with fail
            go_roundw
            case rel => exact ⟨j + 1, by simp, by omega, by rw [HE2.out], hRm, hkj2⟩
            case measure => simp [intOf]; omega
        · obtain rfl : j = ps.length := by omega
          rw [List.take_length]
          have hle := have_le ps i
          have HM := Lib.hid (rmost b r (have_ ps i : Nat) wr hRj.B (by omega) (by omega))
          go_wp2_with fail
          refine HM.out.mono ?_
          rintro e w' ⟨rfl, hw⟩
          obtain rfl := hw.symm
          clear hw HM
          by_cases hmo : r.n < 2 * ((have_ ps i : Nat) : Int)
          · have hn2 : i = cm' := by rw [← HCN.out, HCI.out]; simp [okc, HAT.out, hmo]
            have HN := Lib.hid hn2
            have hd : decide (r.n < 2 * ((have_ ps i : Nat) : Int)) = true := by simpa using hmo
            rw [hd]
            clear hn2 hd hmo HCN HCI hle HIK q1
            have hc := hRj.B.cell
            simp only [Rf.cells] at hc
            have hf := hRj.B.free
            go_wp2_with fail
            (try simp only [Exit.inBlock, Exit.then])
            refine bodyPost_ret (results_none rfl _ _ _) rfl ?_
            have hks := (Keeps.refl [b] wr).set (p := ⟨b, 5, none⟩) (by simp) (.int .u64 i)
            refine ⟨rfl, ?_, hkj.of_nil.trans hks⟩
            rw [← HN.out]
            exact hRj.turnB hks (fun x hx => .inl (by simpa using hx)) ((hRj.B.put 5 _).eq (by simp [Rf.cells])) rfl rfl
          · have hn2 : cntUp (okc g r.tm r.n ps) r.cm k = cm' := by rw [← HCN.out, HCI.out]; simp [okc, hmo]
            have HN := Lib.hid hn2
            have hd : decide (r.n < 2 * ((have_ ps i : Nat) : Int)) = false := by simpa using hmo
            rw [hd]
            clear hn2 hd hmo HCN HCI hle
            go_wp2_with fail
            go_roundw
            case rel => exact ⟨k, by rw [HIK.out], hkK, HN.out, hRj, hkj⟩
            case measure => simp [intOf]; omega
end Go.Proofs.YtdeaelbelcjhcaaDoor
