/- A node of raft: Step of who asks for a vote. -/
import Derived.Test.YtbegjhfkfmhidaaRaft15
import Derived.Test.YtbegjhfkfmhidaaRaft6


namespace Go.Proofs.Ytbegjhfkfmhidaa
open Go.RowKit

/-- of a later term: a follower of nobody -/
def Rf.upTo (r : Rf) (tm : Int) : Rf := if r.tm < tm then { r with tm := tm, vt := -1, ro := 0, ld := -1, rs := (none, 0, 0), vs := (none, 0, 0) } else r
/-- is the vote given? -/
def Rf.gives (r : Rf) (g : Lg) (fr tm ix lt : Int) : Bool := (tm == (r.upTo tm).tm) && (r.upTo tm).grants g fr ix lt
def Rf.asked (r : Rf) (g : Lg) (fr tm ix lt : Int) : Rf := (r.upTo tm).vote (r.gives g fr tm ix lt) fr

set_option maxRecDepth 100000 in
set_option maxHeartbeats 8000000 in
theorem rstep_vote (b : Nat) (r : Rf) (g : Lg) (fr tm ix lt d : Int) (w : World) (hB : Blk w b 71 r.cells) (hL : LogAt w r.lg g) (hbl : b ≠ r.lg) (hid : r.id = 0) (hn : r.n = 5) (hro : r.ro = 0) (hms : r.ms = (none, 0, 0)) (h0 : 0 ≤ g.base) (h1 : g.last < 4611686018427387904)
    (f0 : 1 ≤ fr) (f1 : fr ≤ 4) :
    Calls Try.prog 17 #[.pointer (some ⟨b, 0, none⟩), .agg #[.int .i64 (1), .int .i64 (fr), .int .i64 (0), .int .u64 (tm), .int .u64 (ix), .int .u64 (lt), .slice none 0 0, .int .u64 0, .int .u64 0, .bool (false), .int .i64 0, .slice none 0 0, .bool false, .int .u64 0, .int .u64 0, .string ⟨#[]⟩, .int .u64 0, .int .i64 0, .slice none 0 0, .slice none 0 0, .int .i64 0, .int .u64 0, .int .i64 0], .int .i64 d] w fun e w' => ∃ ao c, e = .returned (.agg ({ r.asked g fr tm ix lt with ms := (ao, 1, c) } : Rf).out) ∧ Blk w' b 71 (r.asked g fr tm ix lt).bare.cells ∧
      Sl w' 23 ao 1 c [.int .i64 (2), .int .i64 (0), .int .i64 (fr), .int .u64 ((r.upTo tm).tm), .int .u64 (0), .int .u64 (0), .slice none 0 0, .int .u64 0, .int .u64 0, .bool ((r.gives g fr tm ix lt)), .int .i64 0, .slice none 0 0, .bool false, .int .u64 0, .int .u64 0, .string ⟨#[]⟩, .int .u64 0, .int .i64 0, .slice none 0 0, .slice none 0 0, .int .i64 0, .int .u64 0, .int .i64 0] ∧ LogAt w' r.lg g ∧ Keeps [b] w w' := by
  have hl := hB.lt
  have hlw0 := hL.lt
  have hX := (Blk.fresh w 60 #[.int .i64 (1), .int .i64 (fr), .int .i64 (0), .int .u64 (tm), .int .u64 (ix), .int .u64 (lt), .slice none 0 0, .int .u64 0, .int .u64 0, .bool (false), .int .i64 0, .slice none 0 0, .bool false, .int .u64 0, .int .u64 0, .string ⟨#[]⟩, .int .u64 0, .int .i64 0, .slice none 0 0, .slice none 0 0, .int .i64 0, .int .u64 0, .int .i64 0]).alloc (.cells #[.slice none 0 0, .int .u64 0, .int .i64 0, .int .u64 0, .slice none 0 0, .slice none 0 0] 39)
  have hY := Blk.fresh_at (w.alloc (.cells #[.int .i64 (1), .int .i64 (fr), .int .i64 (0), .int .u64 (tm), .int .u64 (ix), .int .u64 (lt), .slice none 0 0, .int .u64 0, .int .u64 0, .bool (false), .int .i64 0, .slice none 0 0, .bool false, .int .u64 0, .int .u64 0, .string ⟨#[]⟩, .int .u64 0, .int .i64 0, .slice none 0 0, .slice none 0 0, .int .i64 0, .int .u64 0, .int .i64 0] 60)) 39 #[.slice none 0 0, .int .u64 0, .int .i64 0, .int .u64 0, .slice none 0 0, .slice none 0 0] (n := w.heap.size + 1) (by simp)
  have hB1 := (hB.alloc (.cells #[.int .i64 (1), .int .i64 (fr), .int .i64 (0), .int .u64 (tm), .int .u64 (ix), .int .u64 (lt), .slice none 0 0, .int .u64 0, .int .u64 0, .bool (false), .int .i64 0, .slice none 0 0, .bool false, .int .u64 0, .int .u64 0, .string ⟨#[]⟩, .int .u64 0, .int .i64 0, .slice none 0 0, .slice none 0 0, .int .i64 0, .int .u64 0, .int .i64 0] 60)).alloc (.cells #[.slice none 0 0, .int .u64 0, .int .i64 0, .int .u64 0, .slice none 0 0, .slice none 0 0] 39)
  have hk1 := ((Keeps.refl [] w).alloc (.cells #[.int .i64 (1), .int .i64 (fr), .int .i64 (0), .int .u64 (tm), .int .u64 (ix), .int .u64 (lt), .slice none 0 0, .int .u64 0, .int .u64 0, .bool (false), .int .i64 0, .slice none 0 0, .bool false, .int .u64 0, .int .u64 0, .string ⟨#[]⟩, .int .u64 0, .int .i64 0, .slice none 0 0, .slice none 0 0, .int .i64 0, .int .u64 0, .int .i64 0] 60)).alloc (.cells #[.slice none 0 0, .int .u64 0, .int .i64 0, .int .u64 0, .slice none 0 0, .slice none 0 0] 39)
  have hL1 := hL.keep0 hk1
  have n1 : ¬ (fr < 0) := by omega
  have n2 : ¬ (5 ≤ fr) := by omega
  have n3 : (fr == 0) = false := by simp; omega
  go_enter Try.func17, Try.ntmps17
  go_upto_region 1 with (fail)
  generalize World.alloc (World.alloc w _) _ = w1 at *
  generalize hye : w.heap.size + 1 = yb at *
  generalize hxe : w.heap.size = xb at *
  have hbx : b ≠ xb := by omega
  have hby : b ≠ yb := by omega
  have hxy : xb ≠ yb := by omega
  have hyw : w.heap.size ≤ yb := by omega
  clear hB hL
  have hc := hB1.cell
  simp only [Rf.cells, hid, hn, hro] at hc
  have hcX := hX.cell
  have hlB := hB1.lt
  have hlX := hX.lt
  go_quiet (fail)
  have hB2 := hB1.drewN nq
  have hX2 := hX.drewN nq
  have hY2 := hY.drewN nq
  have hL2 := hL1.keep0 ((Keeps.refl [] w1).drewN nq)
  have hk2 := hk1.drewN nq
  generalize World.drewN w1 nq = w2 at *
  clear hc hcX hlB hlX hB1 hX hY hL1 hk1
  have hc := hB2.cell
  simp only [Rf.cells, hid, hn, hro] at hc
  have hcX := hX2.cell
  have hlB := hB2.lt
  have hlX := hX2.lt
  go_upto_region 3 with (fail)
  have hbw : b < w2.heap.size := hB2.lt
  have hyw2 : yb < w2.heap.size := hY2.lt
  rcases Int.lt_trichotomy tm r.tm with ht | ht | ht
  · have c1 : ¬ (r.tm < tm) := by omega
    have HU := Lib.hid (show (r.upTo tm).tm = r.tm by simp [Rf.upTo, c1])
    have HG := Lib.hid (show r.gives g fr tm ix lt = false by simp [Rf.gives, Rf.upTo, c1]; omega)
    have HA := Lib.hid (show r.asked g fr tm ix lt = r by rw [Rf.asked, HG.out]; simp [Rf.vote, Rf.upTo, c1])
    go_quiet (fail)
    have hB3 := hB2.drewN nq
    have hX3 := hX2.drewN nq
    have hY3 := hY2.drewN nq
    have hL3 := hL2.keep0 ((Keeps.refl [] w2).drewN nq)
    have hk3 := hk2.drewN nq
    have hs3 : (w2.drewN nq).heap.size = w2.heap.size := rfl
    generalize World.drewN w2 nq = w3 at *
    clear hc hcX hlB hlX hB2 hX2 hY2 hL2 hk2
    have hc := hB3.cell
    simp only [Rf.cells, hid, hn, hro] at hc
    have hcX := hX3.cell
    have hlB := hB3.lt
    have hlX := hX3.lt
    go_upto_region 9 with (fail)
    go_quiet (fail)
    have hB4 := hB3.drewN nq
    have hX2 := hX3.drewN nq
    have hY4 := hY3.drewN nq
    have hL4 := hL3.keep0 ((Keeps.refl [] w3).drewN nq)
    have hk4 := hk3.drewN nq
    have hs4 : (w3.drewN nq).heap.size = w2.heap.size := hs3
    generalize World.drewN w3 nq = w4 at *
    clear hc hcX hlB hlX hB3 hX3 hY3 hL3 hk3
    have hlB := hB4.lt
    have hlX := hX2.lt
    go_wp2_with (first | (refine wpList_load_agg rfl 60 _ rfl xb 0 23 rfl 60 _ _ hX2 Try.underlying60 rfl Try.sizeM (by simp) _ rfl ?_) | (go_at_call 33; fail))
    refine (rrefuses b r g fr tm ix lt w4 hB4 hL4 hbl hms h0 h1).mono ?_
    rintro e w5 ⟨ao, c, rfl, hB5, hS5, hL5, hN3, hk45⟩
    rw [hid] at hS5
    have hY5 := hY4.keep hk45 (by simpa using fun e => hby e.symm)
    have hk5 := hk4.of_nil.trans hk45
    clear hB4 hX2 hY4 hL4 hk4 hk45 hlB hlX
    have hNb : ∀ ad, ao = some ad → b < ad.block ∧ yb < ad.block := fun ad e => by have := hN3 ad e; omega
    have HNB := Lib.hid hNb
    have HN3 := Lib.hid hN3
    clear hN3 hNb
    go_wp2_with fail
    refine (rready b _ w5 hB5).mono ?_
    rintro e wr ⟨rfl, hBr, hkr⟩
    have hYr := hY5.keep hkr (by simpa using fun e => hby e.symm)
    have hSr := hS5.keep hkr (fun ad e _ => by have := HNB.out ad e; simp; omega)
    have hLr := hL5.keepB hkr hB5 (Rf.nostr _) (fun e => hbl e.symm)
    have hkw := hk5.trans hkr
    clear hY5 hS5 hB5 hL5 hk5 hkr
    simp only [Rf.out]
    have hcY := hYr.cell
    have hlY := hYr.lt
    have hfY := hYr.free
    have hly := hLr.lt
    go_wp2_with fail
    have hks := fun v0 v1 v2 v3 v4 v5 => (((((((Keeps.refl [yb] wr).set (p := ⟨yb, 0, none⟩) (by simp) v0).set (p := ⟨yb, 1, none⟩) (by simp) v1).set (p := ⟨yb, 2, none⟩) (by simp) v2).set (p := ⟨yb, 3, none⟩) (by simp) v3).set (p := ⟨yb, 4, none⟩) (by simp) v4).set (p := ⟨yb, 5, none⟩) (by simp) v5)
    exact bodyPost_ret (results_c rfl rfl (Blk.eq (cs' := ({ r with ms := (ao, 1, c) } : Rf).out) ((((((hYr.put 0 _).put 1 _).put 2 _).put 3 _).put 4 _).put 5 _) (by simp [Rf.out])) Try.underlying39 rfl Try.sizeRE) rfl
      ⟨ao, c, (by rw [HA.out]), (hBr.keep (hks _ _ _ _ _ _) (by simpa using hby)).eq (by rw [HA.out]; rfl), (by rw [HG.out, HU.out]; exact hSr.keep (hks _ _ _ _ _ _) (fun ad e _ => by have := HNB.out ad e; simp; omega)), hLr.keepB (hks _ _ _ _ _ _) hYr (by simp) (by omega), hkw.step (hks _ _ _ _ _ _) (fun y hy => by simp at hy; omega)⟩
  · have c1 : ¬ (r.tm < tm) := by omega
    have c2 : ¬ (tm < r.tm) := by omega
    have HU := Lib.hid (show (r.upTo tm).tm = r.tm by simp [Rf.upTo, c1])
    have HG := Lib.hid (show r.gives g fr tm ix lt = r.grants g fr ix lt by simp [Rf.gives, Rf.upTo, ht])
    have HA := Lib.hid (show r.asked g fr tm ix lt = r.vote (r.grants g fr ix lt) fr by rw [Rf.asked, HG.out]; simp [Rf.upTo, c1])
    clear ht
    go_quiet (fail)
    have hB3 := hB2.drewN nq
    have hX3 := hX2.drewN nq
    have hY3 := hY2.drewN nq
    have hL3 := hL2.keep0 ((Keeps.refl [] w2).drewN nq)
    have hk3 := hk2.drewN nq
    have hs3 : (w2.drewN nq).heap.size = w2.heap.size := rfl
    generalize World.drewN w2 nq = w3 at *
    clear hc hcX hlB hlX hB2 hX2 hY2 hL2 hk2
    have hc := hB3.cell
    simp only [Rf.cells, hid, hn, hro] at hc
    have hcX := hX3.cell
    have hlB := hB3.lt
    have hlX := hX3.lt
    go_upto_region 9 with (fail)
    go_quiet (fail)
    have hB4 := hB3.drewN nq
    have hX2 := hX3.drewN nq
    have hY4 := hY3.drewN nq
    have hL4 := hL3.keep0 ((Keeps.refl [] w3).drewN nq)
    have hk4 := hk3.drewN nq
    have hs4 : (w3.drewN nq).heap.size = w2.heap.size := hs3
    generalize World.drewN w3 nq = w4 at *
    clear hc hcX hlB hlX hB3 hX3 hY3 hL3 hk3
    have hc := hB4.cell
    simp only [Rf.cells, hid, hn, hro] at hc
    have hcX := hX2.cell
    have hlB := hB4.lt
    have hlX := hX2.lt
    go_wp2_with (first | (refine wpList_load_agg rfl 60 _ rfl xb 0 23 rfl 60 _ _ hX2 Try.underlying60 rfl Try.sizeM (by simp) _ rfl ?_) | (go_at_call 34; fail))
    refine (rvotesFor b r g fr tm ix lt w4 hB4 hL4 hbl hro hms h0 h1).mono ?_
    rintro e w5 ⟨ao, c, rfl, hB5, hS5, hL5, hN3, hk45⟩
    rw [hid] at hS5
    have hY5 := hY4.keep hk45 (by simpa using fun e => hby e.symm)
    have hk5 := hk4.of_nil.trans hk45
    clear hB4 hX2 hY4 hL4 hk4 hk45 hlB hlX hc hcX
    have hNb : ∀ ad, ao = some ad → b < ad.block ∧ yb < ad.block := fun ad e => by have := hN3 ad e; omega
    have HNB := Lib.hid hNb
    have HN3 := Lib.hid hN3
    clear hN3 hNb
    go_wp2_with fail
    refine (rready b _ w5 hB5).mono ?_
    rintro e wr ⟨rfl, hBr, hkr⟩
    have hYr := hY5.keep hkr (by simpa using fun e => hby e.symm)
    have hSr := hS5.keep hkr (fun ad e _ => by have := HNB.out ad e; simp; omega)
    have hLr := hL5.keepB hkr hB5 (Rf.nostr _) (fun e => hbl e.symm)
    have hkw := hk5.trans hkr
    clear hY5 hS5 hB5 hL5 hk5 hkr
    simp only [Rf.out]
    have hcY := hYr.cell
    have hlY := hYr.lt
    have hfY := hYr.free
    have hly := hLr.lt
    go_wp2_with fail
    have hks := fun v0 v1 v2 v3 v4 v5 => (((((((Keeps.refl [yb] wr).set (p := ⟨yb, 0, none⟩) (by simp) v0).set (p := ⟨yb, 1, none⟩) (by simp) v1).set (p := ⟨yb, 2, none⟩) (by simp) v2).set (p := ⟨yb, 3, none⟩) (by simp) v3).set (p := ⟨yb, 4, none⟩) (by simp) v4).set (p := ⟨yb, 5, none⟩) (by simp) v5)
    exact bodyPost_ret (results_c rfl rfl (Blk.eq (cs' := ({ r.vote (r.grants g fr ix lt) fr with ms := (ao, 1, c) } : Rf).out) ((((((hYr.put 0 _).put 1 _).put 2 _).put 3 _).put 4 _).put 5 _) (by simp [Rf.out])) Try.underlying39 rfl Try.sizeRE) rfl
      ⟨ao, c, (by rw [HA.out]), (hBr.keep (hks _ _ _ _ _ _) (by simpa using hby)).eq (by rw [HA.out]; rfl), (by rw [HG.out, HU.out]; exact hSr.keep (hks _ _ _ _ _ _) (fun ad e _ => by have := HNB.out ad e; simp; omega)), hLr.keepB (hks _ _ _ _ _ _) hYr (by simp) (by omega), hkw.step (hks _ _ _ _ _ _) (fun y hy => by simp at hy; omega)⟩
  · obtain ⟨r1, hr1⟩ : ∃ r1 : Rf, r1 = { r with tm := tm, vt := -1, ro := 0, ld := -1, rs := (none, 0, 0), vs := (none, 0, 0) } := ⟨_, rfl⟩
    have hu : r.upTo tm = r1 := by rw [hr1]; simp [Rf.upTo, ht]
    have HU := Lib.hid (show (r.upTo tm).tm = r1.tm by rw [hu])
    have HG := Lib.hid (show r.gives g fr tm ix lt = r1.grants g fr ix lt by rw [Rf.gives, hu, hr1]; simp)
    have HA := Lib.hid (show r.asked g fr tm ix lt = r1.vote (r1.grants g fr ix lt) fr by rw [Rf.asked, HG.out, hu])
    have HR1 := Lib.hid hr1
    clear hr1 hu
    go_quiet (fail)
    have hB3 := hB2.drewN nq
    have hX3 := hX2.drewN nq
    have hY3 := hY2.drewN nq
    have hL3 := hL2.keep0 ((Keeps.refl [] w2).drewN nq)
    have hk3 := hk2.drewN nq
    have hs3 : (w2.drewN nq).heap.size = w2.heap.size := rfl
    generalize World.drewN w2 nq = w3 at *
    clear hc hcX hlB hlX hB2 hX2 hY2 hL2 hk2
    have hc := hB3.cell
    simp only [Rf.cells, hid, hn, hro] at hc
    have hcX := hX3.cell
    have hlB := hB3.lt
    have hlX := hX3.lt
    have hf := hB3.free
    go_upto_region 8 with (fail)
    have hB4 := ((hB3.put 2 (.int .u64 tm)).put 3 (.int .i64 (-1))).eq (cs' := ({ r with tm := tm, vt := -1 } : Rf).cells) (by simp [Rf.cells])
    have hks := ((Keeps.refl [b] w3).set (p := ⟨b, 2, none⟩) (by simp) (.int .u64 tm)).set (p := ⟨b, 3, none⟩) (by simp) (.int .i64 (-1))
    have hX4 := hX3.keep hks (by simpa using fun e => hbx e.symm)
    have hY4 := hY3.keep hks (by simpa using fun e => hby e.symm)
    have hL4 := hL3.keepB hks hB3 r.nostr (fun e => hbl e.symm)
    have hk4 := hk3.of_nil.trans hks
    have hs4 := hks.size
    rw [hs3] at hs4
    generalize World.setCell (World.setCell w3 _ _) _ _ = w4 at *
    clear hc hcX hlB hlX hf hB3 hX3 hY3 hL3 hk3 hks hs3
    have hlB := hB4.lt
    go_wp2_with (fail)
    refine (rfollows b _ (-1) w4 hB4).mono ?_
    rintro e w5 ⟨rfl, hB5, hk45⟩
    replace hB5 := hB5.eq (cs' := r1.cells) (by rw [HR1.out])
    have hX2 := hX4.keep hk45 (by simpa using fun e => hbx e.symm)
    have hY5 := hY4.keep hk45 (by simpa using fun e => hby e.symm)
    have hL5 := hL4.keepB hk45 hB4 (Rf.nostr _) (fun e => hbl e.symm)
    have hk5 := hk4.trans hk45
    have hs5 := hk45.size
    clear hB4 hX4 hY4 hL4 hk4 hk45 hlB
    have hlg : r1.lg = r.lg := by rw [HR1.out]
    have hro1 : r1.ro = 0 := by rw [HR1.out]
    have hms1 : r1.ms = (none, 0, 0) := by rw [HR1.out]; exact hms
    have hid1 : r1.id = 0 := by rw [HR1.out]; exact hid
    have HRO := Lib.hid hro1
    have HMS := Lib.hid hms1
    have HID := Lib.hid hid1
    have HLG := Lib.hid hlg
    rw [← hlg] at hL5 hbl
    clear hlg hms1 hid1 hid hn hro hms
    have hc := hB5.cell
    simp only [Rf.cells, hro1] at hc
    clear hro1
    have hcX := hX2.cell
    have hlB := hB5.lt
    have hlX := hX2.lt
    go_wp2_with (first | (refine wpList_load_agg rfl 60 _ rfl xb 0 23 rfl 60 _ _ hX2 Try.underlying60 rfl Try.sizeM (by simp) _ rfl ?_) | (go_at_call 34; fail))
    refine (rvotesFor b r1 g fr tm ix lt w5 hB5 hL5 hbl HRO.out HMS.out h0 h1).mono ?_
    rintro e w6 ⟨ao, c, rfl, hB6, hS6, hL6, hN3, hk56⟩
    rw [HID.out] at hS6
    have hY6 := hY5.keep hk56 (by simpa using fun e => hby e.symm)
    have hk6 := hk5.trans hk56
    clear hB5 hX2 hY5 hL5 hk5 hk56 hlB hlX hc hcX
    have hNb : ∀ ad, ao = some ad → b < ad.block ∧ yb < ad.block := fun ad e => by have := hN3 ad e; omega
    have HNB := Lib.hid hNb
    have HN3 := Lib.hid hN3
    clear hN3 hNb
    go_wp2_with fail
    refine (rready b _ w6 hB6).mono ?_
    rintro e wr ⟨rfl, hBr, hkr⟩
    have hYr := hY6.keep hkr (by simpa using fun e => hby e.symm)
    have hSr := hS6.keep hkr (fun ad e _ => by have := HNB.out ad e; simp; omega)
    have hLr := hL6.keepB hkr hB6 (Rf.nostr _) (fun e => hbl e.symm)
    have hkw := hk6.trans hkr
    clear hY6 hS6 hB6 hL6 hk6 hkr
    simp only [Rf.out]
    have hcY := hYr.cell
    have hlY := hYr.lt
    have hfY := hYr.free
    have hly := hLr.lt
    go_wp2_with fail
    have hks := fun v0 v1 v2 v3 v4 v5 => (((((((Keeps.refl [yb] wr).set (p := ⟨yb, 0, none⟩) (by simp) v0).set (p := ⟨yb, 1, none⟩) (by simp) v1).set (p := ⟨yb, 2, none⟩) (by simp) v2).set (p := ⟨yb, 3, none⟩) (by simp) v3).set (p := ⟨yb, 4, none⟩) (by simp) v4).set (p := ⟨yb, 5, none⟩) (by simp) v5)
    exact bodyPost_ret (results_c rfl rfl (Blk.eq (cs' := ({ r1.vote (r1.grants g fr ix lt) fr with ms := (ao, 1, c) } : Rf).out) ((((((hYr.put 0 _).put 1 _).put 2 _).put 3 _).put 4 _).put 5 _) (by simp [Rf.out])) Try.underlying39 rfl Try.sizeRE) rfl
      ⟨ao, c, (by rw [HA.out]), (hBr.keep (hks _ _ _ _ _ _) (by simpa using hby)).eq (by rw [HA.out]; rfl), (by rw [HG.out, HU.out]; exact hSr.keep (hks _ _ _ _ _ _) (fun ad e _ => by have := HNB.out ad e; simp; omega)), (HLG.out ▸ hLr).keepB (hks _ _ _ _ _ _) hYr (by simp) (by omega), hkw.step (hks _ _ _ _ _ _) (fun y hy => by simp at hy; omega)⟩
end Go.Proofs.Ytbegjhfkfmhidaa
