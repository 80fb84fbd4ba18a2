/- TreeWalks: the walk. -/
import Derived.Test.YthibgaagfdgmmaaTr31

namespace Go.Proofs.Ythibgaagfdgmmaa
open Go.RowKit Go.Lib

/-- nodes lie in any block but these three -/
def Off3 (a b c : Nat) : Nat → Prop := fun x => x ≠ a ∧ x ≠ b ∧ x ≠ c
theorem bys_num {n d m : Nat} (h : n = d * 256 + m) (hd : d < 256) (hm : m < 256) : bys (num n) = [.int .u8 (d : Int), .int .u8 (m : Int)] := by
  have e1 : (UInt8.ofNat (n / 256)).toNat = d := by rw [UInt8.toNat_ofNat']; omega
  have e2 : (UInt8.ofNat n).toNat = m := by rw [UInt8.toNat_ofNat']; omega
  simp only [bys, num, List.map_cons, List.map_nil, e1, e2]
theorem TreeAt.off3 {w w0 : World} {a b c t : Nat} {l : List KV} (h : TreeAt w (Grown (Off3 a b c) w0) t l) (ha : a < w0.heap.size) (hb : b < w0.heap.size) (hc : c < w0.heap.size) (ht : t = a) : TreeAt w (Off3 a b c) t l := by
  refine h.mono (fun x hx _ => ?_) (fun h => h.1 ht)
  rcases hx with hx | hx
  · exact hx
  · exact ⟨by omega, by omega, by omega⟩

set_option maxRecDepth 100000 in
set_option maxHeartbeats 8000000 in
theorem walks_any (ao : Option Addr) (kc : Nat) (ks : List Nat) (fr0 go : Nat) (w : World) (hks : ∀ k ∈ ks, k < 65536) (hfr0 : fr0 < 65536) (hgo : go < 256) (hS : Sl w 1 ao ks.length kc (u16s ks)) :
    Calls Try.prog 3 #[.slice ao ks.length kc, .int .u16 fr0, .int .u8 go] w fun e w' => e = .returned (.bool true) ∧ Keeps [] w w' := by
  obtain ⟨iH, zH, hiH, hzH, hszH, hcH⟩ := infoH
  go_enter Try.func3, Try.ntmps3
  go_wp2_with fail
  refine (known_any w).mono ?_
  rintro e w1 ⟨rfl, hk1⟩
  by_cases h200 : 200 < ks.length
  · have n1 : (200 : Int) < (ks.length : Int) := by omega
    go_wp2_with fail
    go_ret
    exact ⟨rfl, hk1⟩
  have n1 : ¬ ((200 : Int) < (ks.length : Int)) := by omega
  go_wp2_with fail
  refine (tnew w1).mono ?_
  rintro e w2 ⟨t, rfl, hta, hT0, hk2⟩
  have hk02 := hk1.trans hk2
  have ht0 := hT0.lt
  have hwt : w.heap.size ≤ t := Nat.le_trans hk1.size hta
  go_upto_region 7 with (refine wpList_alloc0 rfl 27 rfl iH zH hiH hzH ?_)
  have hHB := Blk.fresh w2 27 zH.cells
  have hk3 := hk02.alloc (.cells zH.cells 27)
  have hT : TreeAt (w2.alloc (.cells zH.cells 27)) (Off t w2.heap.size) t [] := (hT0.mono (F' := Off t w2.heap.size) (fun x hx hlt => ⟨hx.2, by omega⟩) (fun h => h.1 rfl)).keep0 ((Keeps.refl [] w2).alloc _)
  generalize World.alloc w2 _ = w3 at *
  generalize w2.heap.size = hb at *
  have hH : HasAt w3 hb (fun _ => false) := ⟨_, hHB, hszH, hcH⟩
  have hthb : t < hb := ht0
  have HS := Lib.hid (And.intro hT (And.intro hH hk3))
  clear hT hH hk3 hk02 hk1 hk2 hta hT0 hHB hszH hcH hiH hzH ht0
  go_wp2_with fail
  go_loopw [9] (fun v wr => ∃ (i : Nat) (l : List KV) (f : Nat → Bool), v = .int .i64 (i : Int) ∧ i ≤ ks.length ∧ WInv l f ∧ l.length ≤ i ∧ TreeAt wr (Off t hb) t l ∧ HasAt wr hb f ∧ Keeps [] w wr) (fun v _ => ks.length - (intOf v).toNat)
  case atStart => exact ⟨0, [], _, rfl, by omega, WInv.nil, by simp, HS.out.1, HS.out.2.1, HS.out.2.2⟩
  case round =>
    clear HS
    obtain ⟨i, l, f, rfl, hin, hW, hll, hT, hH, hkr⟩ := hrel
    have HW := Lib.hid hW
    clear hW
    rcases (by omega : i = ks.length ∨ i < ks.length) with hie | hil
    · obtain rfl := hie
      have n2 : ¬ ((ks.length : Int) < (ks.length : Int)) := by omega
      obtain ⟨fr, hfr⟩ : ∃ fr, fr = fr0 % 1024 := ⟨_, rfl⟩
      have hfl : fr < 1024 := by omega
      have q1 : (fr0 : Int) % 1024 = (fr : Int) := by omega
      clear hfr
      have t1 := hT.lt
      have h1 := hH.lt
      go_wp2_with fail
      refine (number_any fr wr (by omega)).mono ?_
      rintro e w4 ⟨nb, rfl, hnb, hO, hk4⟩
      go_wp2_with fail
      refine (tseek (t := t) (k := num fr) hO.rb (by simp)).mono ?_
      rintro e w5 ⟨cb, rfl, hcb, hC, hk5⟩
      have hs4 := hk4.size
      have hT5 : TreeAt w5 (Off3 t hb cb) t l := ((hT.keep0 hk4).mono (F' := Off3 t hb cb) (fun x hx hlt => ⟨hx.1, hx.2, by omega⟩) (fun h => h.1 rfl)).keep0 hk5
      have hC5 : CurAt w5 (Off3 t hb cb) cb t (num fr) false := hC.mono (fun x hx _ => ⟨by omega, by omega, hx.2⟩)
      have hH5 := hH.keep0 (hk4.trans hk5)
      have hk05 := hkr.trans (hk4.trans hk5)
      have htc : t < cb := by omega
      have hhc : hb < cb := by omega
      have HS2 := Lib.hid (And.intro hT5 (And.intro hC5 (And.intro hH5 hk05)))
      have HLL := Lib.hid hll
      clear hT5 hC5 hH5 hk05 hT hH hC hkr hk4 hk5 hO hnb hcb hs4 t1 h1 hll hS hks
      go_wp2_with fail
      go_loopw [12] (fun v wr => ∃ (lo : Nat) (l : List KV) (f : Nat → Bool) (k : Bs) (ab : Bool), v = .int .i64 ((lo : Int) - 1) ∧ lo ≤ 1024 ∧ WInv l f ∧ l.length ≤ 200 ∧ TreeAt wr (Off3 t hb cb) t l ∧ HasAt wr hb f ∧ CurAt wr (Off3 t hb cb) cb t k ab ∧ Place k ab (max lo fr) ∧ Keeps [] w wr) (fun v _ => 1024 - (intOf v + 1).toNat)
      case atStart => exact ⟨0, l, f, num fr, false, by simp, by omega, HW.out, Nat.le_trans HLL.out (by omega), HS2.out.1, HS2.out.2.2.1, HS2.out.2.1, by rw [Nat.zero_max]; exact place_at hfl, HS2.out.2.2.2⟩
      case round =>
        clear HS2 HLL HW
        obtain ⟨lo, l, f, k, ab, rfl, hlo, hW, hll, hT, hH, hC, hP, hkr⟩ := hrel
        have HW := Lib.hid hW
        have HP := Lib.hid hP
        obtain ⟨st, hst⟩ : ∃ st, st = max lo fr := ⟨_, rfl⟩
        have HST := Lib.hid hst
        have hsr := hT.srt
        have qL : IntKind.i64.wrap ((lo : Int) - 1 + 1) = (lo : Int) := by rw [IntWalk.i64_in _ (by omega)]; omega
        have qL2 : IntKind.i64.wrap (lo : Int) = (lo : Int) := IntWalk.i64_in _ (by omega)
        clear hW hP hst
        go_wp2_with fail
        refine (cnext hT hC (fun h => h.2.2 rfl)).mono ?_
        rintro e w3 hA
        rcases hA with ⟨hno, rfl, hk3⟩ | ⟨k', v', hyes, a1, c1, a2, c2, rfl, hr1, hf1, hr2, hf2, hC3, hk3, hk1l, hv1l⟩
        · have hall := walk_none HW.out HP.out hno
          rw [← HST.out] at hall
          have hH3 := hH.keep0 hk3
          have hk03 := hkr.trans hk3
          have HALL := Lib.hid hall
          clear hno hall hT hH hC hkr hk3
          rcases Nat.lt_or_ge lo fr with hlf | hlf
          · have hse : st = fr := by rw [HST.out]; exact Nat.max_eq_right (by omega)
            have m1 : (lo : Int) < (fr : Int) := by omega
            have m2 : (lo : Int) < (fr0 : Int) % 1024 := by omega

            go_wp2_with fail
            go_loopw [18] (fun v wr => ∃ i : Nat, v = .int .i64 (i : Int) ∧ st ≤ i ∧ i ≤ 1024 ∧ HasAt wr hb f ∧ Keeps [] w wr) (fun v _ => 1024 - (intOf v).toNat)
            case atStart => exact ⟨fr, by first | rfl | rw [q1], by omega, by omega, hH3, hk03⟩
            case round =>
              clear hH3 hk03
              obtain ⟨i, rfl, hsi, hi1, hH4, hk4⟩ := hrel
              rcases (by omega : i = 1024 ∨ i < 1024) with hie | hil
              · have n3 : ¬ ((i : Int) < 1024) := by omega
                go_wp2_with fail
                go_ret
                exact ⟨rfl, hk4⟩
              · have n3 : (i : Int) < 1024 := by omega
                have n4 : (0 : Int) ≤ (i : Int) := by omega
                have hcell := hH4.cell hil
                rw [HALL.out i hsi hil] at hcell
                go_wp2_with fail
                go_roundw
                case rel => exact ⟨i + 1, by simp, by omega, by omega, hH4, hk4⟩
                case measure => simp [intOf]; omega
          · have hse : st = lo := by rw [HST.out]; exact Nat.max_eq_left hlf
            have m1 : ¬ ((lo : Int) < (fr : Int)) := by omega
            have m2 : ¬ ((lo : Int) < (fr0 : Int) % 1024) := by omega

            go_wp2_with fail
            go_loopw [18] (fun v wr => ∃ i : Nat, v = .int .i64 (i : Int) ∧ st ≤ i ∧ i ≤ 1024 ∧ HasAt wr hb f ∧ Keeps [] w wr) (fun v _ => 1024 - (intOf v).toNat)
            case atStart => exact ⟨lo, rfl, by omega, by omega, hH3, hk03⟩
            case round =>
              clear hH3 hk03
              obtain ⟨i, rfl, hsi, hi1, hH4, hk4⟩ := hrel
              rcases (by omega : i = 1024 ∨ i < 1024) with hie | hil
              · have n3 : ¬ ((i : Int) < 1024) := by omega
                go_wp2_with fail
                go_ret
                exact ⟨rfl, hk4⟩
              · have n3 : (i : Int) < 1024 := by omega
                have n4 : (0 : Int) ≤ (i : Int) := by omega
                have hcell := hH4.cell hil
                rw [HALL.out i hsi hil] at hcell
                go_wp2_with fail
                go_roundw
                case rel => exact ⟨i + 1, by simp, by omega, by omega, hH4, hk4⟩
                case measure => simp [intOf]; omega
        · obtain ⟨n, hn, rfl, hfn, hsn, hbe⟩ := walk_some HW.out hsr HP.out hyes
          rw [← HST.out] at hsn hbe
          have hlon : lo ≤ n := Nat.le_trans (by rw [HST.out]; exact Nat.le_max_left _ _) hsn
          have hfrn : fr ≤ n := Nat.le_trans (by rw [HST.out]; exact Nat.le_max_right _ _) hsn
          clear hyes
          have hT3 := hT.keep hk3 (fun x hx => by simp at hx; subst hx; exact ⟨fun h => h.2.2 rfl, by omega⟩)
          have hH3 := hH.keep hk3 (by simp; omega)
          have hk03 := hkr.step hk3 (fun x hx => .inr (by simp at hx; omega))
          obtain ⟨d, hd⟩ : ∃ d, d = n / 256 := ⟨_, rfl⟩
          obtain ⟨m, hm⟩ : ∃ m, m = n % 256 := ⟨_, rfl⟩
          have hbys := bys_num (n := n) (d := d) (m := m) (by omega) (by omega) (by omega)
          have HND := Lib.hid (show n = d * 256 + m ∧ d < 256 ∧ m < 256 from ⟨by omega, by omega, by omega⟩)
          have hcap := hr1.cap
          rw [num_length] at hcap
          obtain ⟨kb2, ko2, rfl⟩ := hr1.at (by omega)
          have ca : w3.cell? ⟨kb2, ko2, none⟩ = some (.int .u8 (d : Int)) := by
            have := hr1.cells rfl 0 _ (by rw [hbys]; rfl)
            rwa [addr_add rfl] at this
          have ca2 : w3.cell? ⟨kb2, ko2 + 1, none⟩ = some (.int .u8 (m : Int)) := by
            have := hr1.cells rfl 1 _ (by rw [hbys]; rfl)
            rwa [addr_add rfl] at this
          have hxn := hH3.cell hn
          rw [hfn] at hxn
          have HB := Lib.hid (And.intro hT3 (And.intro hH3 (And.intro hk03 (And.intro hr1 hC3))))
          have HBE := Lib.hid hbe
          have q2 : IntKind.i64.wrap ((d : Int) * 256) = (d : Int) * 256 := IntWalk.i64_in _ (by omega)
          have q3 : IntKind.i64.wrap ((d : Int) * 256 + (m : Int)) = (n : Int) := by rw [IntWalk.i64_in _ (by omega)]; omega
          have g1 : ¬ ((n : Int) ≤ (lo : Int) - 1) := by omega
          have g2 : ¬ ((n : Int) < (fr0 : Int) % 1024) := by omega
          have g3 : ¬ ((n : Int) < (fr : Int)) := by omega
          have g4 : (0 : Int) ≤ (n : Int) := by omega
          have g5 : (n : Int) < 1024 := by omega
          rw [num_length]
          clear hd hm hbys hcap hbe hT3 hH3 hk03 hr1 hr2 hf1 hf2 hC3 hk3 hT hH hC hkr hfn
          go_wp2_with fail
          go_quiet (fail)
          obtain ⟨hn1, hn2, hn3⟩ := HND.out
          have e64 : ∀ z : Int, -9223372036854775808 ≤ z ∧ z ≤ 9223372036854775807 → wrap64 z = z := fun z h => by unfold wrap64; omega
          rw [e64 (d : Int) (by omega), e64 ((d : Int) * 256) (by omega), e64 (m : Int) (by omega), e64 ((d : Int) * 256 + (m : Int)) (by omega), show (d : Int) * 256 + (m : Int) = (n : Int) by omega]
          clear ca ca2 q2 q3 e64 hn1 hn2 hn3 HND
          have hkq : ∀ c, Keeps [] w3 (w3.drewN c) := fun c => (Keeps.refl [] w3).drewN c
          generalize hw6 : World.drewN w3 _ = w6
          have hk6 : Keeps [] w3 w6 := by rw [← hw6]; exact hkq _
          clear hkq hw6
          obtain ⟨gT, gH, gk, gr, gC⟩ := HB.out
          replace gT := gT.keep0 hk6
          replace gH := gH.keep0 hk6
          replace gk := gk.trans hk6
          replace gr := gr.keep0 hk6
          replace gC := gC.keep0 hk6
          replace hxn := hk6.cellSome hxn (by simp)
          clear HB hk6
          rcases Nat.lt_or_ge lo fr with hlf | hlf
          · have hse : st = fr := by rw [HST.out]; exact Nat.max_eq_right (by omega)
            have m1 : (lo : Int) < (fr : Int) := by omega
            have m2 : (lo : Int) < (fr0 : Int) % 1024 := by omega
            go_wp2_with fail
            go_loopw [17] (fun v wr => wr = w6 ∧ ∃ i : Nat, v = .int .i64 (i : Int) ∧ st ≤ i ∧ i ≤ n) (fun v _ => n - (intOf v).toNat)
            case atStart => exact ⟨rfl, fr, by first | rfl | rw [q1], by omega, by omega⟩
            case round =>
              obtain ⟨hwr, i, rfl, hsi, hin2⟩ := hrel
              subst hwr
              have hhl := gH.lt
              have htl6 := gT.lt
              rcases (by omega : i = n ∨ i < n) with hie | hil
              · have n3 : ¬ ((i : Int) < (n : Int)) := by omega
                cases hc : ((n : Int) % 7 == (go : Int) % 7)
                · go_wp2_with fail
                  go_roundw
                  case rel =>
                    refine ⟨n + 1, l, f, num n, true, by simp, by omega, HW.out, hll, gT, gH, gC, by rw [Nat.max_eq_left (by omega)]; exact place_above hn, gk⟩
                  case measure => simp [intOf]; omega
                · go_wp2_with fail
                  refine (tdel (k := num n) gT gr (by omega)).mono ?_
                  rintro e w7 ⟨rfl, hT7, hk7⟩
                  have hT8 := hT7.off3 (by omega) (by omega) (by have := gC.lt; omega) rfl
                  have hH7 := gH.keep hk7 (by simp; omega)
                  have hC7 := gC.keep hk7 (by simp; omega) (fun x hx => by simp at hx; subst hx; exact fun h => h.1 rfl)
                  have hk07 := gk.step hk7 (fun x hx => .inr (by simp at hx; omega))
                  have hx7 := hH7.cell hn
                  have hf7 := hH7.free n
                  have hl7 := hH7.lt
                  have hdl := del_len (k := num n) hsr
                  have hdl2 : (del (num n) l).length ≤ 200 := by rw [hdl]; split <;> omega
                  clear hdl
                  go_wp2_with fail
                  go_roundw
                  case rel =>
                    refine ⟨n + 1, del (num n) l, setf f n false, num n, true, by simp, by omega, HW.out.del hn, hdl2, hT8.keep ((Keeps.refl [hb] w7).set (p := ⟨hb, n, none⟩) (.inl (by simp)) (.bool false)) (fun x hx => by simp at hx; subst hx; exact ⟨fun h => h.2.1 rfl, by omega⟩), hH7.put n false, hC7.keep ((Keeps.refl [hb] w7).set (p := ⟨hb, n, none⟩) (.inl (by simp)) (.bool false)) (by simp; omega) (fun x hx => by simp at hx; subst hx; exact fun h => h.2.1 rfl), by rw [Nat.max_eq_left (by omega)]; exact place_above hn, hk07.set (p := ⟨hb, n, none⟩) (.inr (by simp; omega)) (.bool false)⟩
                  case measure => simp [intOf]; omega
              · have n3 : (i : Int) < (n : Int) := by omega
                have n4 : (0 : Int) ≤ (i : Int) := by omega
                have n5 : (i : Int) < 1024 := by omega
                have hcell := gH.cell (k := i) (by omega)
                rw [HBE.out i hsi hil] at hcell
                go_wp2_with fail
                go_roundw
                case rel => exact ⟨by first | rfl | trivial, i + 1, by simp, by omega, by omega⟩
                case measure => simp [intOf]; omega
          · have hse : st = lo := by rw [HST.out]; exact Nat.max_eq_left hlf
            have m1 : ¬ ((lo : Int) < (fr : Int)) := by omega
            have m2 : ¬ ((lo : Int) < (fr0 : Int) % 1024) := by omega
            go_wp2_with fail
            go_loopw [17] (fun v wr => wr = w6 ∧ ∃ i : Nat, v = .int .i64 (i : Int) ∧ st ≤ i ∧ i ≤ n) (fun v _ => n - (intOf v).toNat)
            case atStart => exact ⟨rfl, lo, rfl, by omega, by omega⟩
            case round =>
              obtain ⟨hwr, i, rfl, hsi, hin2⟩ := hrel
              subst hwr
              have hhl := gH.lt
              have htl6 := gT.lt
              rcases (by omega : i = n ∨ i < n) with hie | hil
              · have n3 : ¬ ((i : Int) < (n : Int)) := by omega
                cases hc : ((n : Int) % 7 == (go : Int) % 7)
                · go_wp2_with fail
                  go_roundw
                  case rel =>
                    refine ⟨n + 1, l, f, num n, true, by simp, by omega, HW.out, hll, gT, gH, gC, by rw [Nat.max_eq_left (by omega)]; exact place_above hn, gk⟩
                  case measure => simp [intOf]; omega
                · go_wp2_with fail
                  refine (tdel (k := num n) gT gr (by omega)).mono ?_
                  rintro e w7 ⟨rfl, hT7, hk7⟩
                  have hT8 := hT7.off3 (by omega) (by omega) (by have := gC.lt; omega) rfl
                  have hH7 := gH.keep hk7 (by simp; omega)
                  have hC7 := gC.keep hk7 (by simp; omega) (fun x hx => by simp at hx; subst hx; exact fun h => h.1 rfl)
                  have hk07 := gk.step hk7 (fun x hx => .inr (by simp at hx; omega))
                  have hx7 := hH7.cell hn
                  have hf7 := hH7.free n
                  have hl7 := hH7.lt
                  have hdl := del_len (k := num n) hsr
                  have hdl2 : (del (num n) l).length ≤ 200 := by rw [hdl]; split <;> omega
                  clear hdl
                  go_wp2_with fail
                  go_roundw
                  case rel =>
                    refine ⟨n + 1, del (num n) l, setf f n false, num n, true, by simp, by omega, HW.out.del hn, hdl2, hT8.keep ((Keeps.refl [hb] w7).set (p := ⟨hb, n, none⟩) (.inl (by simp)) (.bool false)) (fun x hx => by simp at hx; subst hx; exact ⟨fun h => h.2.1 rfl, by omega⟩), hH7.put n false, hC7.keep ((Keeps.refl [hb] w7).set (p := ⟨hb, n, none⟩) (.inl (by simp)) (.bool false)) (by simp; omega) (fun x hx => by simp at hx; subst hx; exact fun h => h.2.1 rfl), by rw [Nat.max_eq_left (by omega)]; exact place_above hn, hk07.set (p := ⟨hb, n, none⟩) (.inr (by simp; omega)) (.bool false)⟩
                  case measure => simp [intOf]; omega
              · have n3 : (i : Int) < (n : Int) := by omega
                have n4 : (0 : Int) ≤ (i : Int) := by omega
                have n5 : (i : Int) < 1024 := by omega
                have hcell := gH.cell (k := i) (by omega)
                rw [HBE.out i hsi hil] at hcell
                go_wp2_with fail
                go_roundw
                case rel => exact ⟨by first | rfl | trivial, i + 1, by simp, by omega, by omega⟩
                case measure => simp [intOf]; omega
    · have n2 : (i : Int) < (ks.length : Int) := by omega
      have p0 : (0 : Int) ≤ (i : Int) := by omega
      obtain ⟨k, hk⟩ : ∃ k, ks[i]? = some k := ⟨_, List.getElem?_eq_getElem hil⟩
      have hk6 := hks k (List.mem_of_getElem? hk)
      have hcap := hS.cap
      obtain ⟨kb, ko, rfl⟩ := hS.at (by omega)
      have ck : wr.cell? ⟨kb, ko + i, none⟩ = some (.int .u16 (k : Nat)) := by
        have := (hS.keep0 hkr).cells rfl i (.int .u16 (k : Nat)) (by simp [u16s, hk])
        rwa [addr_add rfl] at this
      obtain ⟨kk, hkk⟩ : ∃ kk, kk = k % 1024 := ⟨_, rfl⟩
      have hkl : kk < 1024 := by omega
      have q1 : (k : Int) % 1024 = (kk : Int) := by omega
      have p2 : (0 : Int) ≤ (kk : Int) := by omega
      have p3 : (kk : Int) < 1024 := by omega
      have hcell := hH.cell hkl
      obtain ⟨fb, hfb⟩ : ∃ fb, fb = f kk := ⟨_, rfl⟩
      rw [← hfb] at hcell
      have HFB := Lib.hid hfb
      have t1 := hT.lt
      have h1 := hH.lt
      clear hk hkk hfb
      go_upto_region 11 with (fail)
      rw [q1]
      clear ck q1
      have HR0 : (∀ W : World, Keeps [t] wr W → ∀ q ∈ [((7 : Nat), fun w0 : World => w0.cell? ⟨hb, kk, none⟩ = some (.bool fb))], q.2 W) := fun W hW => rds1 (hW.cellSome hcell (by simp; omega))
      have hkd := (Keeps.refl [] wr).drew
      have hSw := HR0 _ hkd.of_nil
      have HR := Lib.hid HR0
      clear HR0 hcell
      refine startU [((7 : Nat), fun w0 : World => w0.cell? ⟨hb, kk, none⟩ = some (.bool fb))] (by kernel_rfl) ?_
      generalize wr.drew = w5 at *
      refine takeU (i := 0) (v := ?_) rfl (by kernel_rfl) (fun _ _ _ h => h) (Or.inl ⟨by rfl, fun w0 hw0 => ?_⟩) (fun p hp _ => hSw p hp) ?_
      rotate_left
      · simp [Reads] at hw0
        go_simp
        try with_reducible rfl
      try go_simp
      refine takeU (i := 1) (v := ?_) rfl (by kernel_rfl) (fun _ _ _ h => h) (Or.inl ⟨by rfl, fun w0 hw0 => ?_⟩) (fun p hp _ => hSw p hp) ?_
      rotate_left
      · simp [Reads] at hw0
        go_simp
        try with_reducible rfl
      try go_simp
      refine takeU (i := 5) (v := ?_) rfl (by kernel_rfl) (fun _ _ _ h => h) (Or.inl ⟨by rfl, fun w0 hw0 => ?_⟩) (fun p hp _ => hSw p hp) ?_
      rotate_left
      · simp [Reads] at hw0
        go_simp
        try with_reducible rfl
      try go_simp
      refine takeU (i := 6) (v := ?_) rfl (by kernel_rfl) (fun _ _ _ h => h) (Or.inl ⟨by rfl, fun w0 hw0 => ?_⟩) (fun p hp _ => hSw p hp) ?_
      rotate_left
      · simp [Reads] at hw0
        go_simp
        try with_reducible rfl
      try go_simp
      refine takeU (i := 7) (v := ?_) rfl (by kernel_rfl) (fun _ _ _ h => h) (Or.inl ⟨by rfl, fun w0 hw0 => ?_⟩) (fun p hp _ => hSw p hp) ?_
      rotate_left
      · simp [Reads] at hw0
        go_simp
        try with_reducible rfl
      try go_simp
      clear hSw
      refine twoU (i := 2) (j := 3) rfl rfl (by kernel_rfl) (fun K hK => ?_) (fun K hK => ?_)
      · rw [if_pos (show Region.wanted _ _ = true from rfl)]
        go_wp2_with fail
        refine (number_any kk w5 (by omega)).mono ?_
        rintro e w6 ⟨nb, rfl, hnb, hO, hk5⟩
        have hk56 := hkd.trans hk5
        simp only []
        refine hK _ _ (fun q hq _ _ => HR.out _ hk56.of_nil q hq) ?_
        clear hK K
        try go_simp
        refine oneU (i := 3) rfl (by kernel_rfl) (fun K hK => ?_)
        go_simp
        refine hK _ _ (fun q hq _ _ => HR.out _ (hk56.alloc _).of_nil q hq) ?_
        clear hK K
        try go_simp
        have hkW := hk56.alloc (.cells #[.int .u8 1] 5)
        have hV : Rb _ _ 1 [UInt8.ofNat 1] := rb_one 1 (by omega) (Blk.fresh w6 5 #[.int .u8 1])
        replace hO := hO.keep0 ((Keeps.refl [] w6).alloc (.cells #[.int .u8 1] 5))
        refine oneU (i := 4) rfl (by kernel_rfl) (fun K hK => ?_)
        rw [if_pos (show Region.wanted _ _ = true from rfl)]
        go_wp2_with fail
        have hsW := hkW.size
        refine (tput (k := num kk) (v := [UInt8.ofNat 1]) (hT.keep0 hkW) hO.rb hV (by simp) (by simp) (by omega)).mono ?_
        rintro e w8 ⟨he, hT8, hk8⟩
        rw [HW.out.has hkl, ← HFB.out] at he
        subst he
        have hkr8 := hkW.of_nil.trans hk8
        simp only []
        refine hK _ _ (fun q hq _ _ => HR.out _ hkr8 q hq) ?_
        clear hK K
        try go_simp
        have hSw := HR.out _ hkr8
        refine takeU (i := 8) (v := ?_) rfl (by kernel_rfl) (fun _ _ _ h => h) (Or.inl ⟨by rfl, fun w0 hw0 => ?_⟩) (fun p hp _ => hSw p hp) ?_
        rotate_left
        · simp [Reads] at hw0
          go_simp
          try with_reducible rfl
        try go_simp
        refine doneU (by kernel_rfl) ?_
        clear hSw
        have hT9 := hT8.off (by omega) (by omega) (.inl rfl)
        have hH9 := (hH.keep0 hkW).keep hk8 (by simp; omega)
        have hk9 := (hkr.trans hkW).step hk8 (fun x hx => .inr (by simp at hx; omega))
        have hcell := hH9.cell hkl
        rw [← HFB.out] at hcell
        have hfree := hH9.free kk
        have hhl := hH9.lt
        have hlen := ins_len (k := num kk) hT.srt [UInt8.ofNat 1]
        have HLEN := Lib.hid hlen
        clear hlen hT8 hk8 hkr8 hO hV HR
        cases fb
        · go_wp2_with fail
          go_roundw
          case rel =>
            refine ⟨i + 1, ins (num kk) [UInt8.ofNat 1] l, setf f kk true, by simp, by omega, HW.out.put hkl _, by rw [HLEN.out]; split <;> omega, ?_, hH9.put kk true, ?_⟩
            · exact hT9.keep ((Keeps.refl [hb] w8).set (p := ⟨hb, kk, none⟩) (.inl (by simp)) (.bool true)) (fun x hx => by simp at hx; subst hx; exact ⟨fun h => h.2 rfl, by omega⟩)
            · exact hk9.set (p := ⟨hb, kk, none⟩) (.inr (by simp; omega)) (.bool true)
          case measure => simp [intOf]; omega
        · go_wp2_with fail
          go_roundw
          case rel =>
            refine ⟨i + 1, ins (num kk) [UInt8.ofNat 1] l, setf f kk true, by simp, by omega, HW.out.put hkl _, by rw [HLEN.out]; split <;> omega, ?_, hH9.put kk true, ?_⟩
            · exact hT9.keep ((Keeps.refl [hb] w8).set (p := ⟨hb, kk, none⟩) (.inl (by simp)) (.bool true)) (fun x hx => by simp at hx; subst hx; exact ⟨fun h => h.2 rfl, by omega⟩)
            · exact hk9.set (p := ⟨hb, kk, none⟩) (.inr (by simp; omega)) (.bool true)
          case measure => simp [intOf]; omega
      · rw [if_pos (show Region.wanted _ _ = true from rfl)]
        go_simp
        refine hK _ _ (fun q hq _ _ => HR.out _ (hkd.alloc _).of_nil q hq) ?_
        clear hK K
        try go_simp
        have hk56 := hkd.alloc (.cells #[.int .u8 1] 5)
        have hV : Rb _ _ 1 [UInt8.ofNat 1] := rb_one 1 (by omega) (Blk.fresh w5 5 #[.int .u8 1])
        refine oneU (i := 2) rfl (by kernel_rfl) (fun K hK => ?_)
        rw [if_pos (show Region.wanted _ _ = true from rfl)]
        go_wp2_with fail
        refine (number_any kk _ (by omega)).mono ?_
        rintro e w7 ⟨nb, rfl, hnb, hO, hk5⟩
        have hkW := hk56.trans hk5
        replace hV := hV.keep0 hk5
        simp only []
        refine hK _ _ (fun q hq _ _ => HR.out _ hkW.of_nil q hq) ?_
        clear hK K
        try go_simp
        refine oneU (i := 4) rfl (by kernel_rfl) (fun K hK => ?_)
        rw [if_pos (show Region.wanted _ _ = true from rfl)]
        go_wp2_with fail
        have hsW := hkW.size
        refine (tput (k := num kk) (v := [UInt8.ofNat 1]) (hT.keep0 hkW) hO.rb hV (by simp) (by simp) (by omega)).mono ?_
        rintro e w8 ⟨he, hT8, hk8⟩
        rw [HW.out.has hkl, ← HFB.out] at he
        subst he
        have hkr8 := hkW.of_nil.trans hk8
        simp only []
        refine hK _ _ (fun q hq _ _ => HR.out _ hkr8 q hq) ?_
        clear hK K
        try go_simp
        have hSw := HR.out _ hkr8
        refine takeU (i := 8) (v := ?_) rfl (by kernel_rfl) (fun _ _ _ h => h) (Or.inl ⟨by rfl, fun w0 hw0 => ?_⟩) (fun p hp _ => hSw p hp) ?_
        rotate_left
        · simp [Reads] at hw0
          go_simp
          try with_reducible rfl
        try go_simp
        refine doneU (by kernel_rfl) ?_
        clear hSw
        have hT9 := hT8.off (by omega) (by omega) (.inl rfl)
        have hH9 := (hH.keep0 hkW).keep hk8 (by simp; omega)
        have hk9 := (hkr.trans hkW).step hk8 (fun x hx => .inr (by simp at hx; omega))
        have hcell := hH9.cell hkl
        rw [← HFB.out] at hcell
        have hfree := hH9.free kk
        have hhl := hH9.lt
        have hlen := ins_len (k := num kk) hT.srt [UInt8.ofNat 1]
        have HLEN := Lib.hid hlen
        clear hlen hT8 hk8 hkr8 hO hV HR
        cases fb
        · go_wp2_with fail
          go_roundw
          case rel =>
            refine ⟨i + 1, ins (num kk) [UInt8.ofNat 1] l, setf f kk true, by simp, by omega, HW.out.put hkl _, by rw [HLEN.out]; split <;> omega, ?_, hH9.put kk true, ?_⟩
            · exact hT9.keep ((Keeps.refl [hb] w8).set (p := ⟨hb, kk, none⟩) (.inl (by simp)) (.bool true)) (fun x hx => by simp at hx; subst hx; exact ⟨fun h => h.2 rfl, by omega⟩)
            · exact hk9.set (p := ⟨hb, kk, none⟩) (.inr (by simp; omega)) (.bool true)
          case measure => simp [intOf]; omega
        · go_wp2_with fail
          go_roundw
          case rel =>
            refine ⟨i + 1, ins (num kk) [UInt8.ofNat 1] l, setf f kk true, by simp, by omega, HW.out.put hkl _, by rw [HLEN.out]; split <;> omega, ?_, hH9.put kk true, ?_⟩
            · exact hT9.keep ((Keeps.refl [hb] w8).set (p := ⟨hb, kk, none⟩) (.inl (by simp)) (.bool true)) (fun x hx => by simp at hx; subst hx; exact ⟨fun h => h.2 rfl, by omega⟩)
            · exact hk9.set (p := ⟨hb, kk, none⟩) (.inr (by simp; omega)) (.bool true)
          case measure => simp [intOf]; omega
end Go.Proofs.Ythibgaagfdgmmaa
