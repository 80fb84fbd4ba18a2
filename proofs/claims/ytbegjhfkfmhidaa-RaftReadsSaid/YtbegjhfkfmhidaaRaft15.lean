/- A node of raft: votesFor, refuses (who asks for a vote). -/
import Derived.Test.YtbegjhfkfmhidaaRaft14
import Derived.Test.YtbegjhfkfmhidaaRaft3


namespace Go.Proofs.Ytbegjhfkfmhidaa
open Go.RowKit

/-- does a follower vote for whoever asks? -/
def Rf.grants (r : Rf) (g : Lg) (fr ix lt : Int) : Bool := (r.vt == -1 || r.vt == fr) && g.newer ix lt
def Rf.vote (r : Rf) (ok : Bool) (fr : Int) : Rf := if ok then { r with vt := fr, el := 0 } else r

set_option maxRecDepth 100000 in
set_option maxHeartbeats 8000000 in
theorem rvotesFor (b : Nat) (r : Rf) (g : Lg) (fr tm ix lt : Int) (w : World) (hB : Blk w b 71 r.cells) (hL : LogAt w r.lg g) (hbl : b ≠ r.lg) (hro : r.ro = 0) (hms : r.ms = (none, 0, 0)) (h0 : 0 ≤ g.base) (h1 : g.last < 4611686018427387904) :
    Calls Try.prog 34 #[.pointer (some ⟨b, 0, none⟩), .agg #[.int .i64 (1), .int .i64 (fr), .int .i64 (0), .int .u64 (tm), .int .u64 (ix), .int .u64 (lt), .slice none 0 0, .int .u64 0, .int .u64 0, .bool (false), .int .i64 0, .slice none 0 0, .bool false, .int .u64 0, .int .u64 0, .string ⟨#[]⟩, .int .u64 0, .int .i64 0, .slice none 0 0, .slice none 0 0, .int .i64 0, .int .u64 0, .int .i64 0]] w fun e w' => ∃ ao c, e = .returned (.tuple #[]) ∧ Blk w' b 71 ({ r.vote (r.grants g fr ix lt) fr with ms := (ao, 1, c) } : Rf).cells ∧
      Sl w' 23 ao 1 c [.int .i64 (2), .int .i64 (r.id), .int .i64 (fr), .int .u64 (r.tm), .int .u64 (0), .int .u64 (0), .slice none 0 0, .int .u64 0, .int .u64 0, .bool ((r.grants g fr ix lt)), .int .i64 0, .slice none 0 0, .bool false, .int .u64 0, .int .u64 0, .string ⟨#[]⟩, .int .u64 0, .int .i64 0, .slice none 0 0, .slice none 0 0, .int .i64 0, .int .u64 0, .int .i64 0] ∧ LogAt w' r.lg g ∧ (∀ ad, ao = some ad → w.heap.size ≤ ad.block) ∧ Keeps [b] w w' := by
  obtain ⟨ok, hok⟩ : ∃ ok, ok = r.grants g fr ix lt := ⟨_, rfl⟩
  rw [← hok]
  have HOK := Lib.hid hok
  clear hok
  have hl := hB.lt
  have hX := Blk.fresh w 60 #[.int .i64 (1), .int .i64 (fr), .int .i64 (0), .int .u64 (tm), .int .u64 (ix), .int .u64 (lt), .slice none 0 0, .int .u64 0, .int .u64 0, .bool (false), .int .i64 0, .slice none 0 0, .bool false, .int .u64 0, .int .u64 0, .string ⟨#[]⟩, .int .u64 0, .int .i64 0, .slice none 0 0, .slice none 0 0, .int .i64 0, .int .u64 0, .int .i64 0]
  have hB1 := hB.alloc (.cells #[.int .i64 (1), .int .i64 (fr), .int .i64 (0), .int .u64 (tm), .int .u64 (ix), .int .u64 (lt), .slice none 0 0, .int .u64 0, .int .u64 0, .bool (false), .int .i64 0, .slice none 0 0, .bool false, .int .u64 0, .int .u64 0, .string ⟨#[]⟩, .int .u64 0, .int .i64 0, .slice none 0 0, .slice none 0 0, .int .i64 0, .int .u64 0, .int .i64 0] 60)
  have hk1 := (Keeps.refl [] w).alloc (.cells #[.int .i64 (1), .int .i64 (fr), .int .i64 (0), .int .u64 (tm), .int .u64 (ix), .int .u64 (lt), .slice none 0 0, .int .u64 0, .int .u64 0, .bool (false), .int .i64 0, .slice none 0 0, .bool false, .int .u64 0, .int .u64 0, .string ⟨#[]⟩, .int .u64 0, .int .i64 0, .slice none 0 0, .slice none 0 0, .int .i64 0, .int .u64 0, .int .i64 0] 60)
  have hL1 := hL.keep0 hk1
  go_enter Try.func34, Try.ntmps34
  go_upto_region 1 with (fail)
  generalize World.alloc w _ = w1 at *
  generalize hxe : w.heap.size = xb at *
  have hbx : b ≠ xb := by omega
  clear hB hL
  go_cut [4] (fun v wx => v = .bool ok ∧ Blk wx b 71 r.cells ∧ Blk wx xb 60 #[.int .i64 (1), .int .i64 (fr), .int .i64 (0), .int .u64 (tm), .int .u64 (ix), .int .u64 (lt), .slice none 0 0, .int .u64 0, .int .u64 0, .bool (false), .int .i64 0, .slice none 0 0, .bool false, .int .u64 0, .int .u64 0, .string ⟨#[]⟩, .int .u64 0, .int .i64 0, .slice none 0 0, .slice none 0 0, .int .i64 0, .int .u64 0, .int .i64 0] ∧ LogAt wx r.lg g ∧ Keeps [] w wx)
  case first =>
    have HN := Lib.hid (fun m => lnewer_q r.lg g ix lt (w1.drewN m) (hL1.keep0 ((Keeps.refl [] w1).drewN m)) h0 h1)
    have hc := hB1.cell
    simp only [Rf.cells, hro] at hc
    have hcX := hX.cell
    have hlB := hB1.lt
    have hlX := hX.lt
    have hfin : ∀ nq, Blk (w1.drewN nq) b 71 r.cells ∧ Blk (w1.drewN nq) xb 60 #[.int .i64 (1), .int .i64 (fr), .int .i64 (0), .int .u64 (tm), .int .u64 (ix), .int .u64 (lt), .slice none 0 0, .int .u64 0, .int .u64 0, .bool (false), .int .i64 0, .slice none 0 0, .bool false, .int .u64 0, .int .u64 0, .string ⟨#[]⟩, .int .u64 0, .int .i64 0, .slice none 0 0, .slice none 0 0, .int .i64 0, .int .u64 0, .int .i64 0] ∧ LogAt (w1.drewN nq) r.lg g ∧ Keeps [] w (w1.drewN nq) := fun nq => ⟨hB1.drewN nq, hX.drewN nq, hL1.keep0 ((Keeps.refl [] w1).drewN nq), hk1.drewN nq⟩
    have HF := Lib.hid hfin
    clear hfin hB1 hX hL1 hk1
    by_cases hv : r.vt = -1
    · rw [hv] at hc
      have ho : ok = g.newer ix lt := by rw [HOK.out]; simp [Rf.grants, hv]
      have HO := Lib.hid ho
      clear ho hv HOK
      go_quiet ((go_at_call 48; exact Calls.quiet_of (HN.out _)))
      go_wp2_with fail
      go_meet
      exact ⟨by rw [HO.out], HF.out _⟩
    · by_cases hv2 : r.vt = fr
      · rw [hv2] at hc hv
        have ho : ok = g.newer ix lt := by rw [HOK.out]; simp [Rf.grants, hv2]
        have HO := Lib.hid ho
        have hv3 : (fr == -1) = false := by simpa using hv
        clear ho hv2 HOK hv
        go_quiet ((go_at_call 48; exact Calls.quiet_of (HN.out _)))
        go_wp2_with fail
        go_meet
        exact ⟨by rw [HO.out], HF.out _⟩
      · have ho : ok = false := by rw [HOK.out]; simp [Rf.grants, hv, hv2]
        have HO := Lib.hid ho
        have hv3 : (r.vt == -1) = false := by simpa using hv
        have hv4 : (r.vt == fr) = false := by simpa using hv2
        clear ho HOK hv hv2
        go_quiet (fail)
        go_wp2_with fail
        go_meet
        exact ⟨by rw [HO.out], HF.out _⟩
  case rest =>
    obtain ⟨rfl, hB2, hX2, hL2, hk2⟩ := hcut
    clear hB1 hX hL1 hk1 HOK
    have hcX := hX2.cell
    have hlX := hX2.lt
    have hlB := hB2.lt
    have hf := hB2.free
    have hc := hB2.cell
    simp only [Rf.cells] at hc
    cases ok with
    | true =>
      go_upto_region 4 with (fail)
      have hB3 := ((hB2.put 3 (.int .i64 fr)).put 8 (.int .i64 0)).eq (cs' := (r.vote true fr).cells) (by simp [Rf.cells, Rf.vote])
      have hks := ((Keeps.refl [b] wc).set (p := ⟨b, 3, none⟩) (by simp) (.int .i64 fr)).set (p := ⟨b, 8, none⟩) (by simp) (.int .i64 0)
      have hX3 := hX2.keep hks (by simpa using fun e => hbx e.symm)
      have hL3 := hL2.keepB hks hB2 r.nostr (fun e => hbl e.symm)
      have hk3 := hk2.of_nil.trans hks
      generalize World.setCell (World.setCell wc _ _) _ _ = w3 at *
      clear hc hf hlB hcX hlX hks
      have hcX := hX3.cell
      have hlX := hX3.lt
      go_wp2_with fail
      refine (rsends b (r.vote true fr) 2 fr 0 true _ hB3 (by simp [Rf.vote, hms])).mono ?_
      rintro e w4 ⟨ao, c, rfl, hB4, hS4, hN4, hk4⟩
      go_wp2_with fail
      go_end0
      exact ⟨ao, c, rfl, hB4, hS4, hL3.keepB hk4 hB3 (Rf.nostr _) (fun e => hbl e.symm), (fun ad e => by have := hN4 ad e; have := hk3.size; omega), hk3.trans hk4⟩
    | false =>
      go_wp2_with fail
      refine (rsends b r 2 fr 0 false _ hB2 hms).mono ?_
      rintro e w3 ⟨ao, c, rfl, hB3, hS3, hN3, hk3⟩
      go_wp2_with fail
      go_end0
      exact ⟨ao, c, rfl, hB3, hS3, hL2.keepB hk3 hB2 r.nostr (fun e => hbl e.symm), (fun ad e => by have := hN3 ad e; have := hk2.size; omega), hk2.of_nil.trans hk3⟩

set_option maxRecDepth 100000 in
set_option maxHeartbeats 8000000 in
theorem rrefuses (b : Nat) (r : Rf) (g : Lg) (fr tm ix lt : Int) (w : World) (hB : Blk w b 71 r.cells) (hL : LogAt w r.lg g) (hbl : b ≠ r.lg) (hms : r.ms = (none, 0, 0)) (h0 : 0 ≤ g.base) (h1 : g.last < 4611686018427387904) :
    Calls Try.prog 33 #[.pointer (some ⟨b, 0, none⟩), .agg #[.int .i64 (1), .int .i64 (fr), .int .i64 (0), .int .u64 (tm), .int .u64 (ix), .int .u64 (lt), .slice none 0 0, .int .u64 0, .int .u64 0, .bool (false), .int .i64 0, .slice none 0 0, .bool false, .int .u64 0, .int .u64 0, .string ⟨#[]⟩, .int .u64 0, .int .i64 0, .slice none 0 0, .slice none 0 0, .int .i64 0, .int .u64 0, .int .i64 0]] w fun e w' => ∃ ao c, e = .returned (.tuple #[]) ∧ Blk w' b 71 ({ r with ms := (ao, 1, c) } : Rf).cells ∧
      Sl w' 23 ao 1 c [.int .i64 (2), .int .i64 (r.id), .int .i64 (fr), .int .u64 (r.tm), .int .u64 (0), .int .u64 (0), .slice none 0 0, .int .u64 0, .int .u64 0, .bool (false), .int .i64 0, .slice none 0 0, .bool false, .int .u64 0, .int .u64 0, .string ⟨#[]⟩, .int .u64 0, .int .i64 0, .slice none 0 0, .slice none 0 0, .int .i64 0, .int .u64 0, .int .i64 0] ∧ LogAt w' r.lg g ∧ (∀ ad, ao = some ad → w.heap.size ≤ ad.block) ∧ Keeps [b] w w' := by
  have hl := hB.lt
  have hX := Blk.fresh w 60 #[.int .i64 (1), .int .i64 (fr), .int .i64 (0), .int .u64 (tm), .int .u64 (ix), .int .u64 (lt), .slice none 0 0, .int .u64 0, .int .u64 0, .bool (false), .int .i64 0, .slice none 0 0, .bool false, .int .u64 0, .int .u64 0, .string ⟨#[]⟩, .int .u64 0, .int .i64 0, .slice none 0 0, .slice none 0 0, .int .i64 0, .int .u64 0, .int .i64 0]
  have hB1 := hB.alloc (.cells #[.int .i64 (1), .int .i64 (fr), .int .i64 (0), .int .u64 (tm), .int .u64 (ix), .int .u64 (lt), .slice none 0 0, .int .u64 0, .int .u64 0, .bool (false), .int .i64 0, .slice none 0 0, .bool false, .int .u64 0, .int .u64 0, .string ⟨#[]⟩, .int .u64 0, .int .i64 0, .slice none 0 0, .slice none 0 0, .int .i64 0, .int .u64 0, .int .i64 0] 60)
  have hk1 := (Keeps.refl [] w).alloc (.cells #[.int .i64 (1), .int .i64 (fr), .int .i64 (0), .int .u64 (tm), .int .u64 (ix), .int .u64 (lt), .slice none 0 0, .int .u64 0, .int .u64 0, .bool (false), .int .i64 0, .slice none 0 0, .bool false, .int .u64 0, .int .u64 0, .string ⟨#[]⟩, .int .u64 0, .int .i64 0, .slice none 0 0, .slice none 0 0, .int .i64 0, .int .u64 0, .int .i64 0] 60)
  have hL1 := hL.keep0 hk1
  go_enter Try.func33, Try.ntmps33
  go_upto_region 1 with (fail)
  generalize World.alloc w _ = w1 at *
  generalize hxe : w.heap.size = xb at *
  have hbx : b ≠ xb := by omega
  clear hB hL
  have hc := hB1.cell
  simp only [Rf.cells] at hc
  have hlB := hB1.lt
  go_wp2_with fail
  refine (llastt_q r.lg g w1 hL1 h0 h1).mono ?_
  rintro e w2 ⟨rfl, m, rfl⟩
  have hB2 := hB1.drewN m
  have hX2 := hX.drewN m
  have hL2 := hL1.keep0 ((Keeps.refl [] w1).drewN m)
  have hk2 := hk1.drewN m
  generalize World.drewN w1 m = w2 at *
  clear hc hlB hB1 hX hL1 hk1
  have hcX := hX2.cell
  have hlX := hX2.lt
  go_wp2_with fail
  refine (rsends b r 2 fr 0 false _ hB2 hms).mono ?_
  rintro e w3 ⟨ao, c, rfl, hB3, hS3, hN3, hk3⟩
  go_wp2_with fail
  go_end0
  exact ⟨ao, c, rfl, hB3, hS3, hL2.keepB hk3 hB2 r.nostr (fun e => hbl e.symm), (fun ad e => by have := hN3 ad e; have := hk2.size; omega), hk2.of_nil.trans hk3⟩
end Go.Proofs.Ytbegjhfkfmhidaa
