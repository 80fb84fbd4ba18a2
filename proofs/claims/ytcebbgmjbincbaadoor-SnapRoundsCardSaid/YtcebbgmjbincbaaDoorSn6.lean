/- SnapRounds: snapshots that are saved one behind the other. -/
import Derived.Test.YtcebbgmjbincbaaDoorSn5

namespace Go.Proofs.YtcebbgmjbincbaaDoor
open Go.RowKit Go.Lib

abbrev nmMine : List UInt8 := [109, 105, 110, 101]
/-- the bytes of round r's snapshot -/
def rB (n r : Nat) : List UInt8 := frame (snB r 1 (List.replicate n (UInt8.ofNat r)))
def rsF (n : Nat) : Nat → List (List UInt8 × Fil)
  | 0 => [(nmMine, ⟨[107, 101, 112, 116], 4⟩)]
  | r + 1 => [(nmMine, ⟨[107, 101, 112, 116], 4⟩), (nmSnap, ⟨rB n r, (rB n r).length⟩)]
def rst (n r : Nat) : DSt := ⟨rsF n r, 1048576, 2 + 3 * r, -1, false⟩
theorem rB_len (n r : Nat) (hn : n ≤ 2000) (hr : r < 1000) : (rB n r).length ≤ 2100 := by
  have h1 := uvarint_length64 (x := r) (by omega)
  have h2 := uvarint_length64 (x := 1) (by omega)
  unfold rB
  rw [frame_length]
  simp [snB]
  omega
theorem rsF_snap0 (n : Nat) : mget nmSnap (rsF n 0) = none := by rfl
theorem rsF_snap (n r : Nat) : mget nmSnap (rsF n (r + 1)) = some ⟨rB n r, (rB n r).length⟩ := by rfl
theorem rsF_fresh (n r : Nat) : mget nmFresh (rsF n r) = none := by cases r <;> rfl
theorem rsF_mine (n r : Nat) : mget nmMine (rsF n r) = some ⟨[107, 101, 112, 116], 4⟩ := by cases r <;> rfl
theorem rsF_put (n r : Nat) : mput nmSnap ⟨rB n r, (rB n r).length⟩ (rsF n r) = rsF n (r + 1) := by cases r <;> rfl
theorem rsF_used (n r : Nat) (hn : n ≤ 2000) (hr : r ≤ 1000) : usedOf (rsF n r) ≤ 2104 := by
  cases r with
  | zero => simp [rsF, usedOf]
  | succ r => have := rB_len n r hn (by omega); simp [rsF, usedOf]; omega
theorem rsF_len (n r : Nat) : (rsF n r).length ≤ 2 := by cases r <;> simp [rsF]
theorem rsF_sure (n r : Nat) : ∀ f ∈ rsF n r, f.2.sure = f.2.b.length := by
  intro f hf
  cases r with
  | zero => simp [rsF] at hf; subst hf; rfl
  | succ r => simp [rsF] at hf; rcases hf with rfl | rfl <;> rfl
theorem rst_save (n r : Nat) (hn : n ≤ 2000) (hr : r < 1000) : (rst n r).save (rB n r) = (rst n (r + 1), .ok) := by
  have h1 := rB_len n r hn hr
  have h2 := rsF_used n r hn (by omega)
  have h3 := rsF_len n r
  rw [save_clean (d := rst n r) rfl rfl (rsF_fresh n r) (by show usedOf (rsF n r) + _ ≤ 1048576; omega) (by show (rsF n r).length < 64; omega) (by omega)]
  show ((⟨mput nmSnap ⟨rB n r, (rB n r).length⟩ (rsF n r), 1048576, 2 + 3 * r + 3, -1, false⟩ : DSt), DRes.ok) = _
  rw [rsF_put]
  rfl
theorem rst_crash (n r : Nat) : (rst n r).crash [] = rst n r := crash_sure rfl rfl (rsF_sure n r)
theorem rst_read (n r : Nat) : (rst n r).read nmMine = ([107, 101, 112, 116], .ok) := by
  simp [DSt.read, rst, rsF_mine]

set_option maxRecDepth 100000 in
set_option maxHeartbeats 8000000 in
theorem srounds (rn n : Nat) (w : World) (hr : rn < 256) (hn : n < 65536) : Calls Tryd.prog 7 #[.int .u8 (rn : Nat), .int .u16 (n : Nat)] w fun e w' => e = .returned (.bool true) ∧ Keeps [] w w' := by
  obtain ⟨R, hR⟩ : ∃ R, R = rn % 40 := ⟨_, rfl⟩
  have hr1 : (rn : Int).tmod 40 = (R : Int) := by rw [Int.tmod_eq_emod_of_nonneg (by omega)]; omega
  have hR40 : R < 40 := by omega
  clear hR
  go_enter Tryd.func7, Tryd.ntmps7
  go_wp2_with fail
  refine (sknown w).mono ?_
  rintro e w1 ⟨rfl, hk1⟩
  by_cases hbig : 2000 < n
  · have m1 : (2000 : Int) < (n : Int) := by omega
    go_wp2_with fail
    go_ret
    exact ⟨rfl, hk1⟩
  have m1 : ¬ ((2000 : Int) < (n : Int)) := by omega
  go_wp2_with fail
  refine (dnew 1048576 (by omega) w1).mono ?_
  rintro e w2 ⟨db, L, rfl, hD, hk2, hL⟩
  have q1 := Lib.run_convert_bytes_const (P := Tryd.prog) w2 22 5 #[.int .u8 107, .int .u8 101, .int .u8 112, .int .u8 116] 4 4 Tryd.underlying22 Tryd.underlying5
  go_wp2_with fail
  refine (dappend_new hD nmMine [107, 101, 112, 116] (by decide) (by decide) (by decide) (4, 5)).mono ?_
  rintro e w3 ⟨ev, L3, rfl, hE, hD3, hk3, hL3⟩
  rw [show DSt.append ⟨[], (1048576 : Int).toNat, 0, -1, false⟩ nmMine [107, 101, 112, 116] = (⟨[(nmMine, ⟨[107, 101, 112, 116], 0⟩)], 1048576, 1, -1, false⟩, .ok) by rfl] at hE hD3
  obtain rfl : ev = .nilIface := hE
  clear q1
  go_wp2_with fail
  refine (dsync hD3 nmMine (by decide)).mono ?_
  rintro e w4 ⟨ev, L4, rfl, hE, hD4, hk4, hL4⟩
  rw [show DSt.sync ⟨[(nmMine, ⟨[107, 101, 112, 116], 0⟩)], 1048576, 1, -1, false⟩ nmMine = (rst n 0, .ok) by rfl] at hE hD4
  obtain rfl : ev = .nilIface := hE
  have hk02 := hk1.trans hk2
  have hs1 := hk1.size
  have hk03 := hk02.step hk3 (fun x hx => .inr (Nat.le_trans hs1 (hL x hx)))
  have hL3' : ∀ x ∈ L3, w.heap.size ≤ x := fun x hx => (hL3 x hx).elim (fun h => Nat.le_trans hs1 (hL x h)) (fun h => Nat.le_trans hk02.size h)
  have hk04 := hk03.step hk4 (fun x hx => .inr (hL3' x hx))
  have hL4' : ∀ x ∈ L4, w.heap.size ≤ x := fun x hx => (hL4 x hx).elim (hL3' x) (fun h => Nat.le_trans hk03.size h)
  have HD := Lib.hid (And.intro hD4 (And.intro hk04 hL4'))
  clear hD hD3 hD4 hk1 hk2 hk3 hk4 hk02 hk03 hk04 hL hL3 hL4 hL3' hL4' hs1
  go_wp2_with fail
  go_loopw [6] (fun v wr => ∃ (r : Nat) (L' : List Nat), v = .int .i64 (r : Int) ∧ r ≤ R ∧ Disk wr L' db (rst n r) ∧ Keeps [] w wr ∧ ∀ x ∈ L', w.heap.size ≤ x) (fun v _ => R - (intOf v).toNat)
  case atStart => exact ⟨0, L4, rfl, Nat.zero_le _, HD.out.1, HD.out.2.1, HD.out.2.2⟩
  case round =>
    obtain ⟨r, L', rfl, hrR, hDr, hkr, hLr⟩ := hrel
    rcases (by omega : r = R ∨ r < R) with rfl | hlt
    · have m2 : ¬ ((r : Int) < (r : Int)) := by omega
      have hRd := dread hDr nmMine
      rw [rst_read] at hRd
      have HR := Lib.hid hRd
      clear hRd hDr
      go_wp2_with fail
      refine HR.out.mono ?_
      rintro e w5 ⟨bo, bc, ev, rfl, hE, hO, hk5⟩
      obtain rfl : ev = .nilIface := hE
      have r1 : (convert 22 9 (.slice bo 4 bc)).run Tryd.prog w5 = .ok (.string ⟨#[107, 101, 112, 116]⟩) w5 := run_text hO.rb 22 9 Tryd.underlying22 Tryd.underlying9
      clear hO
      go_wp2_with fail
      go_ret
      exact ⟨by simp, hkr.trans hk5⟩
    · have m2 : (r : Int) < (R : Int) := by omega
      have q2 : IntKind.i64.wrap ((r : Int) + 1) = r + 1 := IntWalk.i64_in _ (by omega)
      have q3 : IntKind.u8.wrap (r : Int) = r := by simp only [IntKind.wrap_u8]; omega
      have q4 : IntKind.u64.wrap (r : Int) = r := IntWalk.u64_in _ (by omega)
      have HDr := Lib.hid (And.intro hDr (And.intro hkr hLr))
      clear hDr hkr hLr
      obtain ⟨C, hC, hmk⟩ : ∃ C : Array Value, C.size = n ∧ (Instr.makeSlice 22 (.int .u16 (n : Nat)) (.int .u16 (n : Nat))).run Tryd.prog wr = .ok (.slice (some ⟨wr.heap.size, 0, none⟩) n n) (wr.alloc (.cells C 5)) := by
        obtain ⟨iB, zB, hiB, hzB, hsB, hbB, hcB⟩ := infoB
        have := run_makeSlice (P := Tryd.prog) wr 22 5 iB zB Tryd.underlying22 hiB hzB .u16 .u16 n n (by omega) (by omega) (by rw [hsB]; omega) (by rw [hbB]; omega) (by omega)
        exact ⟨madeCells zB.cells ((n : Int).toNat * iB.size), by rw [size_madeCells, hsB]; simp, by simpa using this⟩
      have hBn := Blk.fresh wr 5 C
      have hkA := (Keeps.refl [] wr).alloc (.cells C 5)
      have n1 : (0 : Int) ≤ (n : Int) := by omega
      go_wp2_with fail
      generalize World.alloc wr _ = w5 at *
      generalize hg : wr.heap.size = g at *
      clear hmk
      have HB5 := Lib.hid (And.intro hBn (And.intro hC hkA))
      clear hBn hC hkA
      go_loopw [8] (fun v wq => ∃ (j : Nat) (cs : Array Value), v = .int .i64 (j : Int) ∧ j ≤ n ∧ Blk wq g 5 cs ∧ cs.size = n ∧ (∀ k, k < j → cs[k]? = some (.int .u8 (r : Nat))) ∧ Keeps [g] w5 wq) (fun v _ => n - (intOf v).toNat)
      case atStart => exact ⟨0, C, rfl, Nat.zero_le _, HB5.out.1, HB5.out.2.1, fun k hk => absurd hk (by omega), Keeps.refl _ _⟩
      case round =>
        obtain ⟨j, cs, rfl, hjn, hBj, hcs, hall, hkj⟩ := hrel
        rcases (by omega : j = n ∨ j < n) with rfl | hjl
        rotate_left
        · have m3 : (j : Int) < (n : Int) := by omega
          have m4 : (0 : Int) ≤ (j : Int) := by omega
          have q5 : IntKind.i64.wrap ((j : Int) + 1) = j + 1 := IntWalk.i64_in _ (by omega)
          have hcj : wr.cell? ⟨g, j, none⟩ = some (cs[j]'(by omega)) := by rw [hBj.cell, Array.getElem?_eq_getElem (by omega)]
          have hfj := hBj.free j
          have HJ := Lib.hid (And.intro hBj (And.intro hall hkj))
          clear hBj hall hkj
          go_wp2_with fail
          go_roundw
          case rel =>
            obtain ⟨hBj, hall, hkj⟩ := HJ.out
            refine ⟨j + 1, _, by simp, by omega, hBj.put j (.int .u8 (r : Nat)), by simpa using hcs, fun k hk => ?_, hkj.set (p := ⟨g, j, none⟩) (.inl (by simp)) _⟩
            rw [Array.getElem?_setIfInBounds]
            by_cases hkj : j = k
            · subst hkj
              simp [hcs, hjl]
            · rw [if_neg hkj]
              exact hall k (by omega)
          case measure => simp [intOf]; omega
        · have m3 : ¬ ((j : Int) < (j : Int)) := by omega
          have hr8 : (UInt8.ofNat r).toNat = r := by simp; omega
          have hcells : cs = (bys (List.replicate j (UInt8.ofNat r))).toArray := by
            apply Array.ext_getElem?
            intro k
            by_cases hk : k < j
            · rw [hall k hk]
              simp [bys, hk]
              omega
            · rw [Array.getElem?_eq_none (by omega), Array.getElem?_eq_none (by simp; omega)]
          obtain ⟨hDr, hkr, hLr⟩ := HDr.out
          obtain ⟨-, -, hkA⟩ := HB5.out
          have hgL : g ∉ L' := fun hx => by have := hDr.lt g hx; omega
          have hD6 := (hDr.keep0 hkA).keep hkj (fun x hx => by simp; rintro rfl; exact hgL hx)
          have hk06 : Keeps [] w wr := (hkr.trans hkA).step hkj (fun x hx => .inr (by simp at hx; have := hkr.size; omega))
          subst hcells
          have hRb : Rb wr (some ⟨g, 0, none⟩) j (List.replicate j (UInt8.ofNat r)) := by
            have := rb_blk hBj (by simp; unfold maxLen; omega)
            simpa using this
          have hSv : Calls Tryd.prog 44 #[.pointer (some ⟨db, 0, none⟩), .agg #[.int .u64 (r : Nat), .int .u64 1, .slice (some ⟨g, 0, none⟩) j j]] wr (DPost wr L' db (rst j (r + 1), .ok)) := by
            have hsv := rst_save j r (by omega) (by omega)
            cases r with
            | zero =>
              have := save_none hD6 rfl (by show 2 + 3 * 0 < 1000000000; omega) 0 1 hRb (by simp; omega) (by omega) (by omega) (rsF_snap0 j)
              rw [show frame (snB 0 1 (List.replicate j (UInt8.ofNat 0))) = rB j 0 from rfl, hsv, List.length_replicate] at this
              exact this
            | succ r =>
              have := save_some hD6 rfl (by show 2 + 3 * (r + 1) < 1000000000; omega) (r + 1) 1 hRb (by simp; omega) (by omega) (by omega) (rsF_snap j r) r 1 (List.replicate j (UInt8.ofNat r)) rfl (by simp; omega) (by omega) (by omega)
              rw [if_neg (by omega), show frame (snB (r + 1) 1 (List.replicate j (UInt8.ofNat (r + 1)))) = rB j (r + 1) from rfl, hsv, List.length_replicate] at this
              exact this
          have HSv := Lib.hid hSv
          have HB6 := Lib.hid (And.intro hBj (And.intro hgL (And.intro hk06 hLr)))
          clear hSv hDr hkr hLr hkA hD6 hk06 hBj hall hkj hRb hr8
          go_wp2_with fail
          refine HSv.out.mono ?_
          rintro e w7 ⟨ev, L7, rfl, hE, hD7, hk7, hL7⟩
          obtain rfl : ev = .nilIface := hE
          obtain ⟨hB6, hgL, hk06, hLr⟩ := HB6.out
          have hB7 := hB6.keep hk7 hgL
          have hgL7 : g ∉ L7 := fun hx => (hL7 g hx).elim hgL (fun h => by have := hB6.lt; omega)
          have hk07 := hk06.step hk7 (fun x hx => .inr (hLr x hx))
          have hL07 : ∀ x ∈ L7, w.heap.size ≤ x := fun x hx => (hL7 x hx).elim (hLr x) (fun h => Nat.le_trans hk06.size h)
          have hCr := dcrash hD7 [] (Sl.none _ _) (by simp)
          rw [rst_crash] at hCr
          have HCr := Lib.hid hCr
          have H7 := Lib.hid (And.intro hB7 (And.intro hgL7 (And.intro hk07 hL07)))
          clear hB6 hgL hk06 hLr hB7 hgL7 hk07 hL07 hCr hD7 hk7 hL7
          go_wp2_with fail
          refine HCr.out.mono ?_
          rintro e w8 ⟨rfl, hD8, hk8⟩
          obtain ⟨hB7, hgL7, hk07, hL07⟩ := H7.out
          have hB8 := hB7.keep hk8 hgL7
          have hk08 := hk07.step hk8 (fun x hx => .inr (hL07 x hx))
          have hLd := load_some hD8 rfl (rsF_snap j r) r 1 (List.replicate j (UInt8.ofNat r)) rfl (by simp; omega) (by omega) (by omega)
          rw [List.length_replicate] at hLd
          have HLd := Lib.hid hLd
          have H8 := Lib.hid (And.intro hD8 (And.intro hB8 hk08))
          clear hB7 hgL7 hk07 hB8 hk08 hLd hD8 hk8
          go_wp2_with fail
          refine HLd.out.mono ?_
          rintro e w9 ⟨b9, c9, rfl, hO9, hk9⟩
          obtain ⟨hD8, hB8, hk08⟩ := H8.out
          have hB9 := hB8.keep hk9 (by simp)
          have hkB := (Keeps.refl [] w9).alloc (.cells #[.int .u64 (r : Nat), .int .u64 1, .slice b9 j c9] 69)
          have hRb9 : Rb (w9.alloc (.cells #[.int .u64 (r : Nat), .int .u64 1, .slice b9 j c9] 69)) (some ⟨g, 0, none⟩) j (List.replicate j (UInt8.ofNat r)) := by
            have := rb_blk (hB9.keep hkB (by simp)) (by simp; unfold maxLen; omega)
            simpa using this
          have hBy := bytes_any b9 (some ⟨g, 0, none⟩) c9 j (List.replicate j (UInt8.ofNat r)) (List.replicate j (UInt8.ofNat r)) _ (hO9.rb.keep0 hkB) hRb9
          rw [beq_self_eq_true, List.length_replicate] at hBy
          have HBy := Lib.hid hBy
          have H9 := Lib.hid (And.intro ((hD8.keep0 hk9).keep0 hkB) (And.intro ((hk08.trans hk9).trans hkB) hL07))
          clear hB8 hk08 hB9 hkB hRb9 hBy hO9 hk9 hD8 hL07
          go_wp2_with fail
          refine HBy.out.mono ?_
          rintro e w10 ⟨rfl, hw⟩
          rw [← hw] at H9
          clear hw
          go_wp2_with fail
          go_roundw
          case rel => exact ⟨r + 1, L7, by simp, by omega, H9.out.1, H9.out.2.1, H9.out.2.2⟩
          case measure => simp [intOf]; omega
end Go.Proofs.YtcebbgmjbincbaaDoor
