/- Snapshots: Save. -/
import Derived.Test.YtcebbgmjbincbaaDoorSn2

namespace Go.Proofs.YtcebbgmjbincbaaDoor
open Go.RowKit Go.Lib

/-- what Save does with its bytes -/
def DSt.save (d : DSt) (b : List UInt8) : DSt × DRes :=
  if (d.remove nmFresh).2.cls ≠ 0 ∧ (d.remove nmFresh).2.cls ≠ 30 then d.remove nmFresh else
  if ((d.remove nmFresh).1.append nmFresh b).2.cls ≠ 0 then (d.remove nmFresh).1.append nmFresh b else
  if (((d.remove nmFresh).1.append nmFresh b).1.sync nmFresh).2.cls ≠ 0 then ((d.remove nmFresh).1.append nmFresh b).1.sync nmFresh else
  (((d.remove nmFresh).1.append nmFresh b).1.sync nmFresh).1.rename nmFresh nmSnap

section
variable {w w0 w1 : World} {L L1 : List Nat} {db : Nat} {d : DSt}
theorem DPost.seq (hk : Keeps L w w1) (hL : ∀ x ∈ L1, x ∈ L ∨ w.heap.size ≤ x) {r : DSt × DRes} {e : Ending} {w' : World} (h : DPost w1 L1 db r e w') : DPost w L db r e w' := by
  obtain ⟨ev, L', rfl, h1, h2, h3, h4⟩ := h
  exact ⟨ev, L', rfl, h1, h2, hk.step h3 hL, fun x hx => (h4 x hx).elim (hL x) (fun h => .inr (Nat.le_trans hk.size h))⟩
theorem remove_count (d : DSt) (n : List UInt8) : (d.remove n).1.count ≤ d.count + 1 := by
  unfold DSt.remove
  split
  · simp
  · split
    · simp
    · split <;> simp [DSt.fall, DSt.tick]
theorem append_count (d : DSt) (n b : List UInt8) : (d.append n b).1.count ≤ d.count + 1 := by
  unfold DSt.append
  simp only
  split
  · simp
  · split
    · simp
    · split
      · simp
      · split <;> simp [DSt.fall, DSt.tick]
theorem sync_count (d : DSt) (n : List UInt8) : (d.sync n).1.count ≤ d.count + 1 := by
  unfold DSt.sync
  split
  · simp
  · split
    · simp
    · split <;> simp [DSt.fall, DSt.tick]
theorem remove_res (d : DSt) (n : List UInt8) : (d.remove n).2 = .ok ∨ (d.remove n).2 = .down ∨ (d.remove n).2 = .bad n 30 := by
  unfold DSt.remove
  split
  · simp
  · split
    · simp
    · split <;> simp
theorem append_res (d : DSt) (n b : List UInt8) : (d.append n b).2 = .ok ∨ (d.append n b).2 = .down ∨ (d.append n b).2 = .bad n 20 ∨ (d.append n b).2 = .bad n 31 := by
  unfold DSt.append
  simp only
  split
  · simp
  · split
    · simp
    · split
      · simp
      · split <;> simp
theorem sync_res (d : DSt) (n : List UInt8) : (d.sync n).2 = .ok ∨ (d.sync n).2 = .down ∨ (d.sync n).2 = .bad n 30 := by
  unfold DSt.sync
  split
  · simp
  · split
    · simp
    · split <;> simp

/-- an error that is none stands as another value than nil -/
theorem DE.form {w : World} {ev : Value} {r : DRes} (h : DE w ev r) : (r = .ok ∧ ev = .nilIface) ∨ ∃ t v, ev = .iface t v ∧ r ≠ .ok := by
  cases r with
  | ok => exact .inl ⟨rfl, h⟩
  | down => exact .inr ⟨_, _, h, by simp⟩
  | bad p c => obtain ⟨g, rfl, _⟩ := h; exact .inr ⟨_, _, rfl, by simp⟩
def DRes.isDown : DRes → Bool
  | .down => true
  | _ => false
theorem DRes.isDown_true {r : DRes} (h : r.isDown = true) : r = .down := by cases r <;> simp [DRes.isDown] at h ⊢
theorem DRes.isDown_false {r : DRes} (h : r.isDown = false) : r ≠ .down := by cases r <;> simp [DRes.isDown] at h ⊢
theorem DRes.cls_ok : DRes.ok.cls = 0 := rfl


theorem Rb.off {w : World} {ao : Option Addr} {c : Nat} {l : List UInt8} {N : Nat} (h : Own w N ao c l) {L : List Nat} (hL : ∀ x ∈ L, x < N) : ∀ ad, ao = some ad → bys l ≠ [] → ad.block ∉ L := by
  intro ad e _ hx
  have h1 := (h.lt ad.block (by rw [e]; simp)).1
  have := hL _ hx
  omega

set_option maxRecDepth 100000 in
set_option maxHeartbeats 8000000 in
theorem save_some (h : Disk w L db d) (ho : d.off = false) (hc : d.count < 1000000000) (ix tm : Nat) {ao : Option Addr} {c : Nat} {l : List UInt8} (hl : Rb w ao c l) (hll : l.length ≤ 262080) (hi : ix < 18446744073709551616) (ht : tm < 18446744073709551616)
    {f : Fil} (hm : mget nmSnap d.fs = some f) (ix0 tm0 : Nat) (l0 : List UInt8) (hf : f.b = frame (snB ix0 tm0 l0)) (hl0 : l0.length ≤ 262080) (hi0 : ix0 < 18446744073709551616) (ht0 : tm0 < 18446744073709551616) :
    Calls Tryd.prog 44 #[.pointer (some ⟨db, 0, none⟩), .agg #[.int .u64 (ix : Nat), .int .u64 (tm : Nat), .slice ao l.length c]] w (DPost w L db (if ix < ix0 then (d, .ok) else d.save (frame (snB ix tm l)))) := by
  have hX := Blk.fresh w 69 #[.int .u64 (ix : Nat), .int .u64 (tm : Nat), .slice ao l.length c]
  have hkX := (Keeps.refl [] w).alloc (.cells #[.int .u64 (ix : Nat), .int .u64 (tm : Nat), .slice ao l.length c] 69)
  have hE := encode_any ix tm ao c l _ (hl.keep0 hkX) hll hi ht
  have HE := Lib.hid hE
  have hltL := h.lt
  have hfl : (frame (snB ix tm l)).length ≤ 1000000 := by
    rw [frame_length]
    have h1 := uvarint_length64 hi
    have h2 := uvarint_length64 ht
    simp [snB]
    omega
  clear hE
  obtain ⟨R, hR⟩ : ∃ R, R = (if ix < ix0 then (d, DRes.ok) else d.save (frame (snB ix tm l))) := ⟨_, rfl⟩
  have HR := Lib.hid hR
  rw [← hR]
  clear hR
  go_enter Tryd.func44, Tryd.ntmps44
  go_wp2_with (refine wpList_load_agg rfl _ _ rfl w.heap.size 0 3 rfl 69 _ _ hX Tryd.underlying69 rfl Tryd.sizeSnap (by simp) _ rfl ?_)
  refine HE.out.mono ?_
  rintro e w2 ⟨bo, bc, rfl, hB2, hk2⟩
  replace hB2 := hB2.older (N' := w.heap.size) (by simp)
  have h2 := (h.keep0 hkX).keep0 hk2
  have hX2 := hX.keep hk2 (by simp)
  have hk02 := hkX.trans hk2
  clear hX hkX hk2 h
  have hLd := load_some h2 ho hm ix0 tm0 l0 hf hl0 hi0 ht0
  have HLd := Lib.hid hLd
  clear hLd
  have HB2 := Lib.hid hB2
  clear hB2
  generalize hsb : w.heap.size = sb at *
  go_wp2_with fail
  refine HLd.out.mono ?_
  rintro e w3 ⟨b3, c3, rfl, hO3, hk3⟩
  have hX3 := hX2.keep hk3 (by simp)
  have hD3 := h2.keep0 hk3
  have hB3 := HB2.out.keep0 hk3
  have hk03 := hk02.trans hk3
  have hcX := hX3.cell
  have hlX := hX3.lt
  have hk34 := (Keeps.refl [] w3).alloc (.cells #[.int .u64 (ix0 : Nat), .int .u64 (tm0 : Nat), .slice b3 l0.length c3] 69)
  have hD4 := hD3.keep0 hk34
  have hB4 := hB3.keep0 hk34
  have hk04 := hk03.trans hk34
  have HS := Lib.hid (And.intro hD4 (And.intro hB4 hk04))
  clear hD3 hB3 hk03 hk34 hD4 hB4 hk04 hO3 hk3 h2 hX2 hk02
  by_cases hlt : ix < ix0
  · have m1 : (ix : Int) < (ix0 : Int) := by omega
    go_wp2_with fail
    go_ret
    rw [HR.out, if_pos hlt]
    exact ⟨.nilIface, L, rfl, rfl, HS.out.1, HS.out.2.2.of_nil, fun _ hx => .inl hx⟩
  · have hRe : R = d.save (frame (snB ix tm l)) := by rw [HR.out, if_neg hlt]
    have HRe := Lib.hid hRe
    clear hRe
    have m1 : ¬ ((ix : Int) < (ix0 : Int)) := by omega
    go_wp2_with fail
    generalize hw4 : World.alloc w3 _ = w4 at *
    refine (dremove HS.out.1 nmFresh (by omega)).mono ?_
    rintro e w5 ⟨ev, L5, rfl, hE5, hD5, hk5, hL5⟩
    have hlt4 := HS.out.1.lt
    have hB5 := HS.out.2.1.keep hk5 (fun x hx hx2 => by have h1 := (HS.out.2.1.lt x hx).1; have := hltL x hx2; omega)
    have hoff5 : ∀ ad, bo = some ad → bys (frame (snB ix tm l)) ≠ [] → ad.block ∉ L5 := fun ad e1 _ hx => by
      have h1 := HS.out.2.1.lt ad.block (by rw [e1]; simp)
      rcases hL5 _ hx with h | h
      · have := hltL _ h; omega
      · omega
    have hc5 := remove_count d nmFresh
    have hres := remove_res d nmFresh
    obtain ⟨r1, hr1⟩ : ∃ r1, r1 = (d.remove nmFresh).2 := ⟨_, rfl⟩
    obtain ⟨d1, hd1⟩ : ∃ d1, d1 = (d.remove nmFresh).1 := ⟨_, rfl⟩
    have hrr : d.remove nmFresh = (d1, r1) := by rw [hr1, hd1]
    rw [← hr1] at hE5 hres
    rw [← hd1] at hD5 hc5
    have HRR := Lib.hid hrr
    have hk05 : Keeps L w w5 := HS.out.2.2.of_nil.trans hk5
    have hL05 : ∀ x ∈ L5, x ∈ L ∨ w.heap.size ≤ x := fun x hx => (hL5 x hx).imp id (fun h => Nat.le_trans HS.out.2.2.size h)
    have H5 := Lib.hid (And.intro hD5 (And.intro hB5.rb (And.intro hk05 (And.intro hL05 hoff5))))
    clear hr1 hd1 hrr hD5 hB5 hk5 hL5 hoff5 hk05 hL05 hlt4 hcX hlX hX3
    obtain ⟨q, hq⟩ : ∃ q : Bool, q = r1.isDown := ⟨_, rfl⟩
    go_upto_region 8 with (fail)
    go_cut [48] (fun v wx => v = .bool q ∧ wx = w5)
    case first =>
      rcases hres with rfl | rfl | rfl
      · obtain rfl : ev = .nilIface := hE5
        obtain rfl : q = false := hq
        go_wp2_with fail
        go_meet
        exact ⟨rfl, rfl⟩
      · have hI := is_de hE5 30 (by decide)
        obtain rfl : ev = .iface 98 (.int .i64 32) := hE5
        obtain rfl : q = true := hq
        rw [show decide (DRes.down.cls = 30) = false from rfl] at hI
        go_wp2_with fail
        refine hI.mono ?_
        rintro e w6 ⟨rfl, hw⟩
        obtain rfl := hw.symm
        clear hI
        go_wp2_with fail
        go_meet
        exact ⟨rfl, rfl⟩
      · have hI := is_de hE5 30 (by decide)
        rw [show decide ((DRes.bad nmFresh 30).cls = 30) = true from rfl] at hI
        obtain ⟨g, rfl, hg⟩ := hE5
        obtain rfl : q = false := hq
        clear hg
        go_wp2_with fail
        refine hI.mono ?_
        rintro e w6 ⟨rfl, hw⟩
        obtain rfl := hw.symm
        clear hI
        go_wp2_with fail
        go_meet
        exact ⟨rfl, rfl⟩
    case rest =>
    obtain ⟨rfl, hw⟩ := hcut
    obtain rfl := hw.symm
    cases q with
    | true =>
      have hrd : r1 = .down := DRes.isDown_true hq.symm
      clear hq
      subst hrd
      have hRv : R = (d1, .down) := by
        rw [HRe.out]
        unfold DSt.save
        rw [HRR.out]
        dsimp only
        rw [if_pos (by decide)]
      obtain ⟨hD5, hB5, hk05, hL05, hoff5⟩ := H5.out
      have HRv := Lib.hid hRv
      clear hRv
      go_wp2_with fail
      go_ret
      rw [HRv.out]
      exact ⟨ev, L5, rfl, hE5, hD5, hk05, hL05⟩
    | false =>
      have hrn : ¬ (r1.cls ≠ 0 ∧ r1.cls ≠ 30) := by
        have : r1 ≠ .down := DRes.isDown_false hq.symm
        rcases hres with rfl | rfl | rfl
        · simp [DRes.cls]
        · exact absurd rfl this
        · simp [DRes.cls]
      have HRN := Lib.hid hrn
      clear hE5 hq hres hrn
      obtain ⟨hD5, hB5, hk05, hL05, hoff5⟩ := H5.out
      have hA := dappend hD5 nmFresh (frame (snB ix tm l)) (by decide) hB5 (by omega) hoff5 (by omega)
      have HA := Lib.hid hA
      clear hA hD5 hB5 hk05 hL05 hoff5
      go_wp2_with fail
      refine HA.out.mono ?_
      rintro e w6 ⟨ev6, L6, rfl, hE6, hD6, hk6, hL6⟩
      obtain ⟨r2, hr2⟩ : ∃ r2, r2 = (d1.append nmFresh (frame (snB ix tm l))).2 := ⟨_, rfl⟩
      obtain ⟨d2, hd2⟩ : ∃ d2, d2 = (d1.append nmFresh (frame (snB ix tm l))).1 := ⟨_, rfl⟩
      have hrr2 : d1.append nmFresh (frame (snB ix tm l)) = (d2, r2) := by rw [hr2, hd2]
      have hc6 := append_count d1 nmFresh (frame (snB ix tm l))
      have hres2 := append_res d1 nmFresh (frame (snB ix tm l))
      rw [← hr2] at hE6 hres2
      rw [← hd2] at hD6 hc6
      have HRR2 := Lib.hid hrr2
      have hk06 : Keeps L w w6 := H5.out.2.2.1.step hk6 H5.out.2.2.2.1
      have hL06 : ∀ x ∈ L6, x ∈ L ∨ w.heap.size ≤ x := fun x hx => (hL6 x hx).elim (H5.out.2.2.2.1 x) (fun h => .inr (Nat.le_trans H5.out.2.2.1.size h))
      have H6 := Lib.hid (And.intro hD6 (And.intro hk06 hL06))
      clear hr2 hd2 hrr2 hD6 hk6 hL6 hk06 hL06
      rcases hE6.form with ⟨rfl, rfl⟩ | ⟨t, v, rfl, hne⟩
      rotate_left
      · have hRv : R = (d2, r2) := by
          rw [HRe.out]
          unfold DSt.save
          rw [HRR.out]
          dsimp only
          rw [HRR2.out]
          dsimp only
          rw [if_neg HRN.out, if_pos]
          rcases hres2 with rfl | rfl | rfl | rfl
          · exact absurd rfl hne
          · decide
          · simp [DRes.cls]
          · simp [DRes.cls]
        have HE6 := Lib.hid hE6
        have HRv := Lib.hid hRv
        clear hE6 hRv hne hres2
        go_wp2_with fail
        go_ret
        rw [HRv.out]
        exact ⟨_, L6, rfl, HE6.out, H6.out.1, H6.out.2.1, H6.out.2.2⟩
      clear hE6 hres2
      have hS := dsync H6.out.1 nmFresh (by omega)
      have HSy := Lib.hid hS
      clear hS
      go_wp2_with fail
      refine HSy.out.mono ?_
      rintro e w7 ⟨ev7, L7, rfl, hE7, hD7, hk7, hL7⟩
      obtain ⟨r3, hr3⟩ : ∃ r3, r3 = (d2.sync nmFresh).2 := ⟨_, rfl⟩
      obtain ⟨d3, hd3⟩ : ∃ d3, d3 = (d2.sync nmFresh).1 := ⟨_, rfl⟩
      have hrr3 : d2.sync nmFresh = (d3, r3) := by rw [hr3, hd3]
      have hc7 := sync_count d2 nmFresh
      have hres3 := sync_res d2 nmFresh
      rw [← hr3] at hE7 hres3
      rw [← hd3] at hD7 hc7
      have HRR3 := Lib.hid hrr3
      have hk07 : Keeps L w w7 := H6.out.2.1.step hk7 H6.out.2.2
      have hL07 : ∀ x ∈ L7, x ∈ L ∨ w.heap.size ≤ x := fun x hx => (hL7 x hx).elim (H6.out.2.2 x) (fun h => .inr (Nat.le_trans H6.out.2.1.size h))
      have H7 := Lib.hid (And.intro hD7 (And.intro hk07 hL07))
      clear hr3 hd3 hrr3 hD7 hk7 hL7 hk07 hL07
      rcases hE7.form with ⟨rfl, rfl⟩ | ⟨t, v, rfl, hne⟩
      rotate_left
      · have hRv : R = (d3, r3) := by
          rw [HRe.out]
          unfold DSt.save
          rw [HRR.out]
          dsimp only
          rw [HRR2.out]
          dsimp only
          rw [HRR3.out]
          dsimp only
          rw [if_neg HRN.out, if_neg (by simp [DRes.cls]), if_pos]
          rcases hres3 with rfl | rfl | rfl
          · exact absurd rfl hne
          · decide
          · simp [DRes.cls]
        have HE7 := Lib.hid hE7
        have HRv := Lib.hid hRv
        clear hE7 hRv hne hres3
        go_wp2_with fail
        go_ret
        rw [HRv.out]
        exact ⟨_, L7, rfl, HE7.out, H7.out.1, H7.out.2.1, H7.out.2.2⟩
      clear hE7 hres3
      have hN := drename H7.out.1 nmFresh nmSnap (by decide) (by omega)
      have HN := Lib.hid hN
      clear hN
      go_wp2_with fail
      refine HN.out.mono ?_
      rintro e w8 ⟨ev8, L8, rfl, hE8, hD8, hk8, hL8⟩
      have hRv : R = d3.rename nmFresh nmSnap := by
        rw [HRe.out]
        unfold DSt.save
        rw [HRR.out]
        dsimp only
        rw [HRR2.out]
        dsimp only
        rw [HRR3.out]
        dsimp only
        rw [if_neg HRN.out, if_neg (by simp [DRes.cls]), if_neg (by simp [DRes.cls])]
      have H8 := Lib.hid (And.intro hE8 (And.intro hD8 (And.intro hk8 hL8)))
      clear hE8 hD8 hk8 hL8
      go_wp2_with fail
      go_ret
      rw [hRv]
      obtain ⟨hE8, hD8, hk8, hL8⟩ := H8.out
      exact ⟨_, L8, rfl, hE8, hD8, H7.out.2.1.step hk8 H7.out.2.2, fun x hx => (hL8 x hx).elim (H7.out.2.2 x) (fun h => .inr (Nat.le_trans H7.out.2.1.size h))⟩
set_option maxRecDepth 100000 in
set_option maxHeartbeats 8000000 in
theorem save_none (h : Disk w L db d) (ho : d.off = false) (hc : d.count < 1000000000) (ix tm : Nat) {ao : Option Addr} {c : Nat} {l : List UInt8} (hl : Rb w ao c l) (hll : l.length ≤ 262080) (hi : ix < 18446744073709551616) (ht : tm < 18446744073709551616)
    (hm : mget nmSnap d.fs = none) :
    Calls Tryd.prog 44 #[.pointer (some ⟨db, 0, none⟩), .agg #[.int .u64 (ix : Nat), .int .u64 (tm : Nat), .slice ao l.length c]] w (DPost w L db (d.save (frame (snB ix tm l)))) := by
  have hX := Blk.fresh w 69 #[.int .u64 (ix : Nat), .int .u64 (tm : Nat), .slice ao l.length c]
  have hkX := (Keeps.refl [] w).alloc (.cells #[.int .u64 (ix : Nat), .int .u64 (tm : Nat), .slice ao l.length c] 69)
  have hE := encode_any ix tm ao c l _ (hl.keep0 hkX) hll hi ht
  have HE := Lib.hid hE
  have hltL := h.lt
  have hfl : (frame (snB ix tm l)).length ≤ 1000000 := by
    rw [frame_length]
    have h1 := uvarint_length64 hi
    have h2 := uvarint_length64 ht
    simp [snB]
    omega
  clear hE
  obtain ⟨R, hR⟩ : ∃ R, R = d.save (frame (snB ix tm l)) := ⟨_, rfl⟩
  have HR := Lib.hid hR
  rw [← hR]
  clear hR
  go_enter Tryd.func44, Tryd.ntmps44
  go_wp2_with (refine wpList_load_agg rfl _ _ rfl w.heap.size 0 3 rfl 69 _ _ hX Tryd.underlying69 rfl Tryd.sizeSnap (by simp) _ rfl ?_)
  refine HE.out.mono ?_
  rintro e w2 ⟨bo, bc, rfl, hB2, hk2⟩
  replace hB2 := hB2.older (N' := w.heap.size) (by simp)
  have h2 := (h.keep0 hkX).keep0 hk2
  have hX2 := hX.keep hk2 (by simp)
  have hk02 := hkX.trans hk2
  clear hX hkX hk2 h
  have hLd := load_none h2 ho hm
  have HLd := Lib.hid hLd
  clear hLd
  have HB2 := Lib.hid hB2
  clear hB2
  generalize hsb : w.heap.size = sb at *
  go_wp2_with fail
  refine HLd.out.mono ?_
  rintro e w3 ⟨rfl, hk3⟩
  have hX3 := hX2.keep hk3 (by simp)
  have hD3 := h2.keep0 hk3
  have hB3 := HB2.out.keep0 hk3
  have hk03 := hk02.trans hk3
  have hcX := hX3.cell
  have hlX := hX3.lt
  have hk34 := (Keeps.refl [] w3).alloc (.cells #[.int .u64 0, .int .u64 0, .slice none 0 0] 69)
  have hD4 := hD3.keep0 hk34
  have hB4 := hB3.keep0 hk34
  have hk04 := hk03.trans hk34
  have HS := Lib.hid (And.intro hD4 (And.intro hB4 hk04))
  clear hD3 hB3 hk03 hk34 hD4 hB4 hk04 hk3 h2 hX2 hk02
  have hRe : R = d.save (frame (snB ix tm l)) := HR.out
  have HRe := Lib.hid hRe
  clear hRe
  go_wp2_with fail
  generalize hw4 : World.alloc w3 _ = w4 at *
  refine (dremove HS.out.1 nmFresh (by omega)).mono ?_
  rintro e w5 ⟨ev, L5, rfl, hE5, hD5, hk5, hL5⟩
  have hlt4 := HS.out.1.lt
  have hB5 := HS.out.2.1.keep hk5 (fun x hx hx2 => by have h1 := (HS.out.2.1.lt x hx).1; have := hltL x hx2; omega)
  have hoff5 : ∀ ad, bo = some ad → bys (frame (snB ix tm l)) ≠ [] → ad.block ∉ L5 := fun ad e1 _ hx => by
    have h1 := HS.out.2.1.lt ad.block (by rw [e1]; simp)
    rcases hL5 _ hx with h | h
    · have := hltL _ h; omega
    · omega
  have hc5 := remove_count d nmFresh
  have hres := remove_res d nmFresh
  obtain ⟨r1, hr1⟩ : ∃ r1, r1 = (d.remove nmFresh).2 := ⟨_, rfl⟩
  obtain ⟨d1, hd1⟩ : ∃ d1, d1 = (d.remove nmFresh).1 := ⟨_, rfl⟩
  have hrr : d.remove nmFresh = (d1, r1) := by rw [hr1, hd1]
  rw [← hr1] at hE5 hres
  rw [← hd1] at hD5 hc5
  have HRR := Lib.hid hrr
  have hk05 : Keeps L w w5 := HS.out.2.2.of_nil.trans hk5
  have hL05 : ∀ x ∈ L5, x ∈ L ∨ w.heap.size ≤ x := fun x hx => (hL5 x hx).imp id (fun h => Nat.le_trans HS.out.2.2.size h)
  have H5 := Lib.hid (And.intro hD5 (And.intro hB5.rb (And.intro hk05 (And.intro hL05 hoff5))))
  clear hr1 hd1 hrr hD5 hB5 hk5 hL5 hoff5 hk05 hL05 hlt4 hcX hlX hX3
  obtain ⟨q, hq⟩ : ∃ q : Bool, q = r1.isDown := ⟨_, rfl⟩
  go_upto_region 8 with (fail)
  go_cut [48] (fun v wx => v = .bool q ∧ wx = w5)
  case first =>
    rcases hres with rfl | rfl | rfl
    · obtain rfl : ev = .nilIface := hE5
      obtain rfl : q = false := hq
      go_wp2_with fail
      go_meet
      exact ⟨rfl, rfl⟩
    · have hI := is_de hE5 30 (by decide)
      obtain rfl : ev = .iface 98 (.int .i64 32) := hE5
      obtain rfl : q = true := hq
      rw [show decide (DRes.down.cls = 30) = false from rfl] at hI
      go_wp2_with fail
      refine hI.mono ?_
      rintro e w6 ⟨rfl, hw⟩
      obtain rfl := hw.symm
      clear hI
      go_wp2_with fail
      go_meet
      exact ⟨rfl, rfl⟩
    · have hI := is_de hE5 30 (by decide)
      rw [show decide ((DRes.bad nmFresh 30).cls = 30) = true from rfl] at hI
      obtain ⟨g, rfl, hg⟩ := hE5
      obtain rfl : q = false := hq
      clear hg
      go_wp2_with fail
      refine hI.mono ?_
      rintro e w6 ⟨rfl, hw⟩
      obtain rfl := hw.symm
      clear hI
      go_wp2_with fail
      go_meet
      exact ⟨rfl, rfl⟩
  case rest =>
  obtain ⟨rfl, hw⟩ := hcut
  obtain rfl := hw.symm
  cases q with
  | true =>
    have hrd : r1 = .down := DRes.isDown_true hq.symm
    clear hq
    subst hrd
    have hRv : R = (d1, .down) := by
      rw [HRe.out]
      unfold DSt.save
      rw [HRR.out]
      dsimp only
      rw [if_pos (by decide)]
    obtain ⟨hD5, hB5, hk05, hL05, hoff5⟩ := H5.out
    have HRv := Lib.hid hRv
    clear hRv
    go_wp2_with fail
    go_ret
    rw [HRv.out]
    exact ⟨ev, L5, rfl, hE5, hD5, hk05, hL05⟩
  | false =>
    have hrn : ¬ (r1.cls ≠ 0 ∧ r1.cls ≠ 30) := by
      have : r1 ≠ .down := DRes.isDown_false hq.symm
      rcases hres with rfl | rfl | rfl
      · simp [DRes.cls]
      · exact absurd rfl this
      · simp [DRes.cls]
    have HRN := Lib.hid hrn
    clear hE5 hq hres hrn
    obtain ⟨hD5, hB5, hk05, hL05, hoff5⟩ := H5.out
    have hA := dappend hD5 nmFresh (frame (snB ix tm l)) (by decide) hB5 (by omega) hoff5 (by omega)
    have HA := Lib.hid hA
    clear hA hD5 hB5 hk05 hL05 hoff5
    go_wp2_with fail
    refine HA.out.mono ?_
    rintro e w6 ⟨ev6, L6, rfl, hE6, hD6, hk6, hL6⟩
    obtain ⟨r2, hr2⟩ : ∃ r2, r2 = (d1.append nmFresh (frame (snB ix tm l))).2 := ⟨_, rfl⟩
    obtain ⟨d2, hd2⟩ : ∃ d2, d2 = (d1.append nmFresh (frame (snB ix tm l))).1 := ⟨_, rfl⟩
    have hrr2 : d1.append nmFresh (frame (snB ix tm l)) = (d2, r2) := by rw [hr2, hd2]
    have hc6 := append_count d1 nmFresh (frame (snB ix tm l))
    have hres2 := append_res d1 nmFresh (frame (snB ix tm l))
    rw [← hr2] at hE6 hres2
    rw [← hd2] at hD6 hc6
    have HRR2 := Lib.hid hrr2
    have hk06 : Keeps L w w6 := H5.out.2.2.1.step hk6 H5.out.2.2.2.1
    have hL06 : ∀ x ∈ L6, x ∈ L ∨ w.heap.size ≤ x := fun x hx => (hL6 x hx).elim (H5.out.2.2.2.1 x) (fun h => .inr (Nat.le_trans H5.out.2.2.1.size h))
    have H6 := Lib.hid (And.intro hD6 (And.intro hk06 hL06))
    clear hr2 hd2 hrr2 hD6 hk6 hL6 hk06 hL06
    rcases hE6.form with ⟨rfl, rfl⟩ | ⟨t, v, rfl, hne⟩
    rotate_left
    · have hRv : R = (d2, r2) := by
        rw [HRe.out]
        unfold DSt.save
        rw [HRR.out]
        dsimp only
        rw [HRR2.out]
        dsimp only
        rw [if_neg HRN.out, if_pos]
        rcases hres2 with rfl | rfl | rfl | rfl
        · exact absurd rfl hne
        · decide
        · simp [DRes.cls]
        · simp [DRes.cls]
      have HE6 := Lib.hid hE6
      have HRv := Lib.hid hRv
      clear hE6 hRv hne hres2
      go_wp2_with fail
      go_ret
      rw [HRv.out]
      exact ⟨_, L6, rfl, HE6.out, H6.out.1, H6.out.2.1, H6.out.2.2⟩
    clear hE6 hres2
    have hS := dsync H6.out.1 nmFresh (by omega)
    have HSy := Lib.hid hS
    clear hS
    go_wp2_with fail
    refine HSy.out.mono ?_
    rintro e w7 ⟨ev7, L7, rfl, hE7, hD7, hk7, hL7⟩
    obtain ⟨r3, hr3⟩ : ∃ r3, r3 = (d2.sync nmFresh).2 := ⟨_, rfl⟩
    obtain ⟨d3, hd3⟩ : ∃ d3, d3 = (d2.sync nmFresh).1 := ⟨_, rfl⟩
    have hrr3 : d2.sync nmFresh = (d3, r3) := by rw [hr3, hd3]
    have hc7 := sync_count d2 nmFresh
    have hres3 := sync_res d2 nmFresh
    rw [← hr3] at hE7 hres3
    rw [← hd3] at hD7 hc7
    have HRR3 := Lib.hid hrr3
    have hk07 : Keeps L w w7 := H6.out.2.1.step hk7 H6.out.2.2
    have hL07 : ∀ x ∈ L7, x ∈ L ∨ w.heap.size ≤ x := fun x hx => (hL7 x hx).elim (H6.out.2.2 x) (fun h => .inr (Nat.le_trans H6.out.2.1.size h))
    have H7 := Lib.hid (And.intro hD7 (And.intro hk07 hL07))
    clear hr3 hd3 hrr3 hD7 hk7 hL7 hk07 hL07
    rcases hE7.form with ⟨rfl, rfl⟩ | ⟨t, v, rfl, hne⟩
    rotate_left
    · have hRv : R = (d3, r3) := by
        rw [HRe.out]
        unfold DSt.save
        rw [HRR.out]
        dsimp only
        rw [HRR2.out]
        dsimp only
        rw [HRR3.out]
        dsimp only
        rw [if_neg HRN.out, if_neg (by simp [DRes.cls]), if_pos]
        rcases hres3 with rfl | rfl | rfl
        · exact absurd rfl hne
        · decide
        · simp [DRes.cls]
      have HE7 := Lib.hid hE7
      have HRv := Lib.hid hRv
      clear hE7 hRv hne hres3
      go_wp2_with fail
      go_ret
      rw [HRv.out]
      exact ⟨_, L7, rfl, HE7.out, H7.out.1, H7.out.2.1, H7.out.2.2⟩
    clear hE7 hres3
    have hN := drename H7.out.1 nmFresh nmSnap (by decide) (by omega)
    have HN := Lib.hid hN
    clear hN
    go_wp2_with fail
    refine HN.out.mono ?_
    rintro e w8 ⟨ev8, L8, rfl, hE8, hD8, hk8, hL8⟩
    have hRv : R = d3.rename nmFresh nmSnap := by
      rw [HRe.out]
      unfold DSt.save
      rw [HRR.out]
      dsimp only
      rw [HRR2.out]
      dsimp only
      rw [HRR3.out]
      dsimp only
      rw [if_neg HRN.out, if_neg (by simp [DRes.cls]), if_neg (by simp [DRes.cls])]
    have H8 := Lib.hid (And.intro hE8 (And.intro hD8 (And.intro hk8 hL8)))
    clear hE8 hD8 hk8 hL8
    go_wp2_with fail
    go_ret
    rw [hRv]
    obtain ⟨hE8, hD8, hk8, hL8⟩ := H8.out
    exact ⟨_, L8, rfl, hE8, hD8, H7.out.2.1.step hk8 H7.out.2.2, fun x hx => (hL8 x hx).elim (H7.out.2.2 x) (fun h => .inr (Nat.le_trans H7.out.2.1.size h))⟩
end
end Go.Proofs.YtcebbgmjbincbaaDoor
