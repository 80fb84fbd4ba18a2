/- RaftCommits: the walk. -/
import Derived.Test.YtbegjhfkfmhidaaRaft36
import Derived.Test.YtbegjhfkfmhidaaRaft12
import Derived.Test.YtbegjhfkfmhidaaWin


namespace Go.Proofs.Ytbegjhfkfmhidaa
open Go.RowKit

theorem built_W : Try.prog.built 60 [(0, .int .i64 2), (1, .int .i64 1), (2, .int .i64 0), (3, .int .u64 2), (9, .bool true)] = some (wmsg 1 2).toArray := by kernel_rfl
theorem built_A (f k : Int) : Try.prog.built 60 [(0, .int .i64 4), (1, .int .i64 f), (2, .int .i64 0), (3, .int .u64 2), (9, .bool true), (4, .int .u64 k), (8, .int .u64 1)] = some (amsg f 2 k 1 true).toArray := by kernel_rfl

theorem max_cast (a b : Nat) : max (a : Int) (b : Int) = ((max a b : Nat) : Int) := by omega
/-- bytes that came in -/
def BytesIn (w : World) (a : Option Addr) (l : List UInt8) : Prop := ∀ i (hi : i < l.length), ∃ b o, a = some ⟨b, o, none⟩ ∧ w.cell? ⟨b, o + i, none⟩ = some (.int .u8 (l[i].toNat : Nat))

set_option maxRecDepth 100000 in
set_option maxHeartbeats 16000000 in
theorem commits_any (x y : Nat) (aa : Option Addr) (ac : Nat) (al : List UInt8) (w : World) (hx : x < 256) (hy : y < 256) (hA : BytesIn w aa al) :
    Calls Try.prog 5 #[.int .u8 (x : Int), .int .u8 (y : Int), .slice aa al.length ac] w fun e w' => e = .returned (.bool true) ∧ Keeps [] w w' := by
  have HA := Lib.hid hA
  clear hA
  obtain ⟨i, z, hi, hz, hsz, hby, hzc⟩ := infoE
  obtain ⟨a, ha⟩ : ∃ a : Nat, a = x % 6 := ⟨_, rfl⟩
  obtain ⟨b0, hb0⟩ : ∃ b0 : Nat, b0 = y % 6 := ⟨_, rfl⟩
  have r1 : (x : Int) % 6 = (a : Int) := by omega
  have r2 : (y : Int) % 6 = (b0 : Int) := by omega
  have ha5 : a ≤ 5 := by omega
  have hb5 : b0 ≤ 5 := by omega
  have w1' : IntKind.i64.wrap (a : Int) = (a : Int) := IntWalk.i64_in _ (by omega)
  have w2' : IntKind.i64.wrap (b0 : Int) = (b0 : Int) := IntWalk.i64_in _ (by omega)
  clear ha hb0
  go_enter Try.func5, Try.ntmps5
  go_wp2_with fail
  refine (rknown w).mono ?_
  rintro e w0 ⟨rfl, hk0⟩
  by_cases h2 : 30 < al.length
  · have n2 : (30 : Int) < (al.length : Int) := by omega
    go_wp2_with fail
    go_ret
    exact ⟨rfl, hk0⟩
  have n2 : ¬ ((30 : Int) < (al.length : Int)) := by omega
  go_wp2_with fail
  clear hx hy r1 r2
  go_loopw [9, 10] (fun v9 v10 wr => ∃ (k c : Nat) (ao : Option Addr), v9 = .slice ao k c ∧ v10 = .int .i64 (k : Int) ∧ k ≤ a ∧ wr.ownsRow w.heap.size 51 5 (.slice ao k c) k (ens (olds k)) ∧ Keeps [] w wr) (fun _ v _ => 20 - (intOf v).toNat)
  case atStart => exact ⟨0, 0, none, rfl, rfl, by omega, World.ownsRow_nil _ _ _ _, hk0⟩
  case round =>
    obtain ⟨k, c, ao, rfl, rfl, hk, hO, hkk⟩ := hrel
    clear hk0
    by_cases hlt : k < a
    · have n3 : (k : Int) < (a : Int) := by omega
      have q1 : IntKind.i64.wrap ((k : Int) + 1) = k + 1 := IntWalk.i64_in _ (by omega)
      have hO1 := own_keep hO ((Keeps.refl [] wr).alloc (.cells #[.int .u64 1, .int .i64 0, .int .u64 0, .int .u64 0, .string ⟨#[]⟩] 51)) (by simp)
      have hkk1 := hkk.alloc (.cells #[.int .u64 1, .int .i64 0, .int .u64 0, .int .u64 0, .string ⟨#[]⟩] 51)
      have hN1 : Sl (wr.alloc (.cells #[.int .u64 1, .int .i64 0, .int .u64 0, .int .u64 0, .string ⟨#[]⟩] 51)) 5 (some ⟨wr.heap.size, 0, none⟩) 1 1 [.int .u64 1, .int .i64 0, .int .u64 0, .int .u64 0, .string ⟨#[]⟩] := Sl.of_blk (Blk.fresh _ _ _) rfl (by decide) (by simp [Value.oneCell'])
      clear hO hkk
      go_wp2_with (at_builtin; refine wpList_append_by _ rfl _ _ 49 49 rfl w.heap.size 51 i z 5 48 Try.underlying49 hi hz hsz hby hzc ao k c (ens (olds k)) rfl hO1 _ rfl 1 _ (hN1.src Try.underlying49) (by unfold maxLen; omega) (by omega) hkk1.size ?_; intro a2 c2 w2 hO2 hka hba)
      have hkk2 := hkk1.step hka (fun x hx => .inr (own_lt hO1 x hx).1)
      clear hO1 hkk1 hN1 hka hba
      go_roundw
      case rel =>
        refine ⟨k + 1, c2, a2, by simp, by simp, by omega, ?_, hkk2⟩
        have e : olds (k + 1) = olds k ++ [⟨1, 0, 0, 0, ⟨#[]⟩⟩] := by simp [olds, List.replicate_succ']
        rw [e, ens_append]
        exact hO2
      case measure => simp [intOf]; omega
    · obtain rfl : k = a := by omega
      obtain ⟨a', c', he, hSe, hrt⟩ := own_sl hO (ens_one (olds k))
      clear hrt
      simp only [Value.slice.injEq, true_and] at he
      obtain ⟨rfl, rfl⟩ := he
      clear hlt hO
      go_wp2_with fail
      refine (lnew 0 0 ao k c (olds k) wr (olds_len k).symm hSe (by rw [olds_len]; omega)).mono ?_
      rintro e w2 ⟨lg, rfl, hlg, hL2, hk2⟩
      have hk02 := hkk.trans hk2
      go_wp2_with fail
      refine (rnewN 3 1 lg ⟨0, 0, olds k⟩ 0 w2 hL2 (by omega) (by omega)).mono ?_
      rintro e w3 ⟨b, rfl, hbw, hB3, hL3, hk3⟩
      have hk03 := hk02.trans hk3
      have hlN : w.heap.size ≤ lg := by have := hkk.size; omega
      have hbN : w.heap.size ≤ b := by have := hk02.size; omega
      have hg1 : (⟨0, 0, olds k⟩ : Lg).last < 900000 := by unfold Lg.last; simp only [olds_len]; omega
      have hW : TickSt w3 w.heap.size b lg 3 1 ⟨0, 0, olds k⟩ 0 := .inl ⟨by omega, hB3, hL3⟩
      clear hk2 hkk hSe hk02 hL2 hk3 hB3 hL3
      have HG1 := Lib.hid hg1
      clear hg1
      go_wp2_with fail
      go_loopw [13] (fun i wr => ∃ j : Nat, i = .int .i64 (j : Int) ∧ j ≤ 10 ∧ TickSt wr w.heap.size b lg 3 1 ⟨0, 0, olds k⟩ j ∧ Keeps [] w wr) (fun i _ => 10 - (intOf i).toNat)
      case atStart => exact ⟨0, rfl, by omega, hW, hk03⟩
      case round =>
        obtain ⟨j, rfl, hj, hWj, hkj⟩ := hrel
        clear hW hk03
        by_cases hlt : j < 10
        · have q1 : IntKind.i64.wrap ((j : Int) + 1) = j + 1 := IntWalk.i64_in _ (by omega)
          have n3 : (j : Int) < 10 := by omega
          go_wp2_with fail
          refine (tickN_any w.heap.size b lg 3 1 ⟨0, 0, olds k⟩ j wr hWj hkj.size hlt (by omega) (by omega) (Int.le_refl _) HG1.out (by omega) (by omega)).mono ?_
          rintro e w3 ⟨⟨v, rfl⟩, hW3, hk3⟩
          go_wp2_with fail
          go_roundw
          case rel => exact ⟨j + 1, by simp, by omega, hW3, hkj.step hk3 (by intro x hx; simp at hx; right; omega)⟩
          case measure => simp [intOf]; omega
        · obtain rfl : j = 10 := by omega
          rcases hWj with ⟨h, _⟩ | ⟨_, vb, hvN, hCT⟩
          · omega
          clear hlt hj HG1
          have HS := Lib.hid (ldc_begin hCT ha5)
          go_wp2_with (first | (refine wpList_built rfl 60 _ rfl _ _ built_W rfl ?_) | (go_at_call 17; fail))
          refine HS.out.mono ?_
          rintro e w4 ⟨v, pb, rfl, hpw, hLd, hk4⟩
          clear HS hCT
          have hk04 := hkj.step hk4 (fun x hx => .inr (by simp at hx; omega))
          have hpN : w.heap.size ≤ pb := by have := hkj.size; omega
          clear hkj hk4 hpw
          go_wp2_with fail
          go_loopw [14] (fun i wr => ∃ j : Nat, i = .int .i64 (j : Int) ∧ j ≤ b0 ∧ LdE wr b pb lg k (j + 1) 0 0 ∧ Keeps [] w wr) (fun i _ => 10 - (intOf i).toNat)
          case atStart => exact ⟨0, rfl, by omega, hLd, hk04⟩
          case round =>
            obtain ⟨j, rfl, hj, hLj, hkj⟩ := hrel
            clear hLd hk04
            by_cases hlt : j < b0
            · have n3 : (j : Int) < (b0 : Int) := by omega
              have q1 : IntKind.i64.wrap ((j : Int) + 1) = j + 1 := IntWalk.i64_in _ (by omega)
              have q2 : IntKind.u64.wrap (j : Int) = (j : Int) := IntWalk.u64_in _ (by omega)
              go_wp2_with fail
              refine (ldc_propose 1 (j : Int) ⟨#[120]⟩ hLj ha5 (by omega)).mono ?_
              rintro e w5 ⟨⟨ix, v, rfl⟩, hL5, hk5⟩
              go_wp2_with fail
              go_roundw
              case rel => exact ⟨j + 1, by simp, by omega, hL5, hkj.step hk5 (fun x hx => .inr (by simp at hx; omega))⟩
              case measure => simp [intOf]; omega
            · obtain rfl : j = b0 := by omega
              have n3 : ¬ ((j : Int) < (j : Int)) := by omega
              have q3 : IntKind.i64.wrap ((k : Int) + 1) = (k : Int) + 1 := IntWalk.i64_in _ (by omega)
              have q4 : IntKind.i64.wrap ((k : Int) + 1 + (j : Int)) = (k : Int) + 1 + (j : Int) := IntWalk.i64_in _ (by omega)
              have q5 : IntKind.u64.wrap ((k : Int) + 1 + (j : Int)) = (k : Int) + 1 + (j : Int) := IntWalk.u64_in _ (by omega)
              go_wp2_with fail
              have hM := Blk.fresh wr 63 #[.int .u64 0, .int .u64 0, .int .u64 0]
              have hkm := (Keeps.refl [] wr).alloc (.cells #[.int .u64 0, .int .u64 0, .int .u64 0] 63)
              have hLm := hLj.keep hkm (fun _ hx => by cases hx)
              have hlt0 := hLj.lt
              have hkk1 := hkj.trans hkm
              have hmN : w.heap.size ≤ wr.heap.size := hkj.size
              generalize World.alloc wr _ = w6 at *
              generalize wr.heap.size = mb at *
              obtain ⟨L, hL⟩ : ∃ L : Nat, L = k + 1 + j := ⟨_, rfl⟩
              have hLL : (k : Int) + 1 + (j : Int) = (L : Int) := by omega
              rw [hLL] at q4 q5 ⊢
              have HL := Lib.hid (show (k : Int) + ((j + 1 : Nat) : Int) = (L : Int) by omega)
              have hL16 : L ≤ 11 := by omega
              clear q3 q4 q5 hkm hkj hLj hLL hL n3
              have hj10 : j + 1 ≤ 10 := by omega
              generalize j + 1 = jj at *
              have s6 : IntKind.u64.wrap (k : Int) = (k : Int) := IntWalk.u64_in _ (by omega)
              go_loopw [17] (fun v wr => ∃ (q : Nat) (m1 m2 : Nat), v = .int .i64 (q : Int) ∧ q ≤ al.length ∧ LdE wr b pb lg k jj (m1 : Int) (m2 : Int) ∧ Blk wr mb 63 #[.int .u64 0, .int .u64 (m1 : Int), .int .u64 (m2 : Int)] ∧ m1 ≤ L ∧ m2 ≤ L ∧ Keeps [] w wr) (fun v _ => 40 - (intOf v).toNat)
              case atStart => exact ⟨0, 0, 0, rfl, by omega, hLm, hM, by omega, by omega, hkk1⟩
              case round =>
                obtain ⟨q, m1, m2, rfl, hq, hLq, hMq, hm1, hm2, hkq⟩ := hrel
                clear hLm hM hkk1
                by_cases hlt : q < al.length
                rotate_left
                · have n3 : ¬ ((q : Int) < (al.length : Int)) := by omega
                  go_wp2_with fail
                  go_ret
                  exact ⟨rfl, hkq⟩
                have n3 : (q : Int) < (al.length : Int) := by omega
                obtain ⟨bb, o, hta, hcell⟩ := HA.out q hlt
                have hcell := hkq.cellSome hcell (by simp)
                have hbb : bb < wr.heap.size := block_lt_of_cell hcell
                have hxb := al[q].toNat_lt
                generalize al[q].toNat = x at *
                subst hta
                obtain ⟨f, hf⟩ : ∃ f : Nat, f = x % 2 + 1 := ⟨_, rfl⟩
                obtain ⟨kk, hkk⟩ : ∃ kk : Nat, kk = x / 2 % 14 := ⟨_, rfl⟩
                have e1 : IntKind.i64.wrap ((x : Int) % 2 + 1) = (f : Int) := by rw [IntWalk.i64_in _ (by omega)]; omega
                have e2 : (x : Int) / 2 % 14 = (kk : Int) := by omega
                have e3 : IntKind.i64.wrap ((x : Int) % 2) = (x : Int) % 2 := IntWalk.i64_in _ (by omega)
                have e4 : IntKind.u64.wrap ((x : Int) / 2) = (x : Int) / 2 := IntWalk.u64_in _ (by omega)
                have e5 : IntKind.i64.wrap ((q : Int) + 1) = q + 1 := IntWalk.i64_in _ (by omega)
                have hf12 : f = 1 ∨ f = 2 := by omega
                have hk13 : kk ≤ 13 := by omega
                clear hf hkk hlt
                go_upto_region 30 with (fail)
                go_quiet (fail)
                rw [e2]
                have hLd := hLq.keep ((Keeps.refl [] wr).drewN nq) (fun _ hx => by cases hx)
                have hMd := hMq.drewN nq
                have hkd := hkq.drewN nq
                have hmw := hMq.lt
                generalize World.drewN wr nq = w7 at *
                clear e1 e2 e3 e4 hcell hLq hMq hkq hxb hbb
                have HS := Lib.hid (ldc_step f kk hLd hf12 ha5 hj10)
                go_wp2_with (first | (refine wpList_built rfl 60 _ rfl _ _ (built_A (f : Int) (kk : Int)) rfl ?_) | (go_at_call 17; fail))
                refine HS.out.mono ?_
                rintro e w8 ⟨⟨v, rfl⟩, hL8, hk8⟩
                clear HS
                have hpbl := hLd.lt
                have hM8 := hMd.keep hk8 (by simp; exact ⟨fun e => by omega, fun e => by omega⟩)
                have hk08 := hkd.step hk8 (fun x hx => .inr (by simp at hx; omega))
                clear hLd hMd hkd hk8
                obtain ⟨M1, hM1⟩ : ∃ M1 : Nat, M1 = if f = 1 ∧ kk ≤ L then max m1 kk else m1 := ⟨_, rfl⟩
                obtain ⟨M2, hM2⟩ : ∃ M2 : Nat, M2 = if f = 2 ∧ kk ≤ L then max m2 kk else m2 := ⟨_, rfl⟩
                have hu1 : upd f 1 ((k : Int) + (jj : Int)) m1 kk = (M1 : Int) := by
                  unfold upd; rw [hM1, HL.out]
                  split <;> split <;> omega
                have hu2 : upd f 2 ((k : Int) + (jj : Int)) m2 kk = (M2 : Int) := by
                  unfold upd; rw [hM2, HL.out]
                  split <;> split <;> omega
                rw [hu1, hu2] at hL8
                have b1 : M1 ≤ L := by rw [hM1]; split <;> omega
                have b2 : M2 ≤ L := by rw [hM2]; split <;> omega
                have HM1 := Lib.hid hM1
                have HM2 := Lib.hid hM2
                clear hu1 hu2 hM1 hM2
                have mx := ifmax
                have hcM := hM8.cell
                have hlM := hM8.lt
                have hfM := hM8.free
                go_upto_if 106 with (fail)
                go_cut [] (fun wx => LdE wx b pb lg k jj (M1 : Int) (M2 : Int) ∧ Blk wx mb 63 #[.int .u64 0, .int .u64 (M1 : Int), .int .u64 (M2 : Int)] ∧ Keeps [] w wx)
                case first =>
                  clear b1 b2
                  by_cases hkL : kk ≤ L
                  · have n4 : (kk : Int) ≤ (L : Int) := by omega
                    rcases hf12 with rfl | rfl
                    · have u1 : M1 = max m1 kk := by rw [HM1.out, if_pos ⟨rfl, hkL⟩]
                      have u2 : M2 = m2 := by rw [HM2.out, if_neg (by omega)]
                      have HU2 := Lib.hid u2
                      by_cases hmk : m1 < kk
                      · have n5 : (m1 : Int) < (kk : Int) := by omega
                        have HZ := Lib.hid (show kk = M1 by omega)
                        clear HM1 HM2 u1 u2 mx
                        go_wp2_with fail
                        go_meet
                        have hks := (Keeps.refl [mb] w8).set (p := ⟨mb, 1, none⟩) (by simp) (.int .u64 (kk : Int))
                        exact ⟨hL8.keepB hks hM8 (by simp) (by decide) (by decide) (by decide), (hM8.put 1 _).eq (by rw [HZ.out, HU2.out]; simp), hk08.step hks (fun x hx => .inr (by simp at hx; omega))⟩
                      · have n5 : ¬ ((m1 : Int) < (kk : Int)) := by omega
                        have HZ := Lib.hid (show m1 = M1 by omega)
                        clear HM1 HM2 u1 u2 mx
                        go_wp2_with fail
                        go_meet
                        have hks := (Keeps.refl [mb] w8).set (p := ⟨mb, 1, none⟩) (by simp) (.int .u64 (m1 : Int))
                        exact ⟨hL8.keepB hks hM8 (by simp) (by decide) (by decide) (by decide), (hM8.put 1 _).eq (by rw [← HZ.out, HU2.out]; simp), hk08.step hks (fun x hx => .inr (by simp at hx; omega))⟩
                    · have u1 : M2 = max m2 kk := by rw [HM2.out, if_pos ⟨rfl, hkL⟩]
                      have u2 : M1 = m1 := by rw [HM1.out, if_neg (by omega)]
                      have HU2 := Lib.hid u2
                      by_cases hmk : m2 < kk
                      · have n5 : (m2 : Int) < (kk : Int) := by omega
                        have HZ := Lib.hid (show kk = M2 by omega)
                        clear HM1 HM2 u1 u2 mx
                        go_wp2_with fail
                        go_meet
                        have hks := (Keeps.refl [mb] w8).set (p := ⟨mb, 2, none⟩) (by simp) (.int .u64 (kk : Int))
                        exact ⟨hL8.keepB hks hM8 (by simp) (by decide) (by decide) (by decide), (hM8.put 2 _).eq (by rw [HZ.out, HU2.out]; simp), hk08.step hks (fun x hx => .inr (by simp at hx; omega))⟩
                      · have n5 : ¬ ((m2 : Int) < (kk : Int)) := by omega
                        have HZ := Lib.hid (show m2 = M2 by omega)
                        clear HM1 HM2 u1 u2 mx
                        go_wp2_with fail
                        go_meet
                        have hks := (Keeps.refl [mb] w8).set (p := ⟨mb, 2, none⟩) (by simp) (.int .u64 (m2 : Int))
                        exact ⟨hL8.keepB hks hM8 (by simp) (by decide) (by decide) (by decide), (hM8.put 2 _).eq (by rw [← HZ.out, HU2.out]; simp), hk08.step hks (fun x hx => .inr (by simp at hx; omega))⟩
                  · have n4 : ¬ ((kk : Int) ≤ (L : Int)) := by omega
                    have HU1 := Lib.hid (show M1 = m1 by rw [HM1.out, if_neg (by omega)])
                    have HU2 := Lib.hid (show M2 = m2 by rw [HM2.out, if_neg (by omega)])
                    clear HM1 HM2 mx
                    go_wp2_with fail
                    go_meet
                    exact ⟨hL8, by rw [HU1.out, HU2.out]; exact hM8, hk08⟩
                case rest =>
                obtain ⟨hLz, hMz, hkz⟩ := hcut
                have HB := Lib.hid (And.intro b1 b2)
                clear hL8 hM8 hk08 hcM hlM hfM HM1 HM2 mx
                have hcM := hMz.cell
                have hlM := hMz.lt
                by_cases hm12 : M1 < M2
                · have n5 : (M1 : Int) < (M2 : Int) := by omega
                  by_cases hmk : M2 ≤ k
                  · have n6 : (M2 : Int) ≤ (k : Int) := by omega
                    have hw : want (k : Int) (M1 : Int) (M2 : Int) = 0 := by unfold want; rw [if_pos (by omega)]
                    have HC := ldc_commit hLz
                    rw [hw] at HC
                    have HCC := Lib.hid HC
                    clear HC hw b1 b2
                    go_wp2_with fail
                    refine HCC.out.mono ?_
                    rintro e w9 ⟨rfl, hw9⟩
                    obtain rfl := hw9.symm
                    clear hw9 HCC
                    go_wp2_with fail
                    go_roundw
                    case rel => exact ⟨q + 1, M1, M2, by simp, by omega, hLz, hMz, HB.out.1, HB.out.2, hkz⟩
                    case measure => simp [intOf]; omega
                  · have n6 : ¬ ((M2 : Int) ≤ (k : Int)) := by omega
                    have hw : want (k : Int) (M1 : Int) (M2 : Int) = (M2 : Int) := by unfold want; rw [if_neg (by omega)]; omega
                    have HC := ldc_commit hLz
                    rw [hw] at HC
                    have HCC := Lib.hid HC
                    clear HC hw b1 b2
                    go_wp2_with fail
                    refine HCC.out.mono ?_
                    rintro e w9 ⟨rfl, hw9⟩
                    obtain rfl := hw9.symm
                    clear hw9 HCC
                    go_wp2_with fail
                    go_roundw
                    case rel => exact ⟨q + 1, M1, M2, by simp, by omega, hLz, hMz, HB.out.1, HB.out.2, hkz⟩
                    case measure => simp [intOf]; omega
                · have n5 : ¬ ((M1 : Int) < (M2 : Int)) := by omega
                  by_cases hmk : M1 ≤ k
                  · have n6 : (M1 : Int) ≤ (k : Int) := by omega
                    have hw : want (k : Int) (M1 : Int) (M2 : Int) = 0 := by unfold want; rw [if_pos (by omega)]
                    have HC := ldc_commit hLz
                    rw [hw] at HC
                    have HCC := Lib.hid HC
                    clear HC hw b1 b2
                    go_wp2_with fail
                    refine HCC.out.mono ?_
                    rintro e w9 ⟨rfl, hw9⟩
                    obtain rfl := hw9.symm
                    clear hw9 HCC
                    go_wp2_with fail
                    go_roundw
                    case rel => exact ⟨q + 1, M1, M2, by simp, by omega, hLz, hMz, HB.out.1, HB.out.2, hkz⟩
                    case measure => simp [intOf]; omega
                  · have n6 : ¬ ((M1 : Int) ≤ (k : Int)) := by omega
                    have hw : want (k : Int) (M1 : Int) (M2 : Int) = (M1 : Int) := by unfold want; rw [if_neg (by omega)]; omega
                    have HC := ldc_commit hLz
                    rw [hw] at HC
                    have HCC := Lib.hid HC
                    clear HC hw b1 b2
                    go_wp2_with fail
                    refine HCC.out.mono ?_
                    rintro e w9 ⟨rfl, hw9⟩
                    obtain rfl := hw9.symm
                    clear hw9 HCC
                    go_wp2_with fail
                    go_roundw
                    case rel => exact ⟨q + 1, M1, M2, by simp, by omega, hLz, hMz, HB.out.1, HB.out.2, hkz⟩
                    case measure => simp [intOf]; omega
end Go.Proofs.Ytbegjhfkfmhidaa
