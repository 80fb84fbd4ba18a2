/- RaftReads: the walk. -/
import Derived.Test.YtbegjhfkfmhidaaRaft39
import Derived.Test.YtbegjhfkfmhidaaRaft12
import Derived.Test.YtbegjhfkfmhidaaWin


namespace Go.Proofs.Ytbegjhfkfmhidaa
open Go.RowKit

theorem built_WR (f : Int) : Try.prog.built 60 [(0, .int .i64 2), (1, .int .i64 f), (2, .int .i64 0), (3, .int .u64 1), (9, .bool true)] = some (wmsg f 1).toArray := by kernel_rfl
theorem built_AR (f : Int) : Try.prog.built 60 [(0, .int .i64 4), (1, .int .i64 f), (2, .int .i64 0), (3, .int .u64 1), (9, .bool true), (4, .int .u64 1), (8, .int .u64 1)] = some (amsg f 1 1 1 true).toArray := by kernel_rfl
theorem built_BR (f rd : Int) (ok : Bool) : Try.prog.built 60 [(0, .int .i64 4), (1, .int .i64 f), (2, .int .i64 0), (3, .int .u64 1), (9, .bool ok), (4, .int .u64 1), (8, .int .u64 rd)] = some (amsg f 1 1 rd ok).toArray := by kernel_rfl

/-- bytes that came in -/
def BytesIn' (w : World) (a : Option Addr) (l : List UInt8) : Prop := ∀ i (hi : i < l.length), ∃ b o, a = some ⟨b, o, none⟩ ∧ w.cell? ⟨b, o + i, none⟩ = some (.int .u8 (l[i].toNat : Nat))

theorem ldp_read' {w : World} {b pb : Nat} (h : LdPE w b pb 2) :
    Calls Try.prog 16 #[.pointer (some ⟨b, 0, none⟩), .int .u64 7] w fun e w' => ∃ mb mc y1 y2 y3 d1 d3 p1 p2 p3, e = .returned (.tuple #[.agg #[.slice (some ⟨mb, 0, none⟩) 4 mc, .int .u64 y1, .int .i64 y2, .int .u64 y3, .slice d1 0 d3, .slice p1 p2 p3], .nilIface]) ∧ mb < w'.heap.size ∧ w'.cell? ⟨mb, 8, none⟩ = some (.int .u64 2) ∧
      (∀ x, w'.heap.size ≤ x → LdRE w' b pb x (fun _ => 0) false) ∧ Keeps [b, pb] w w' := by
  refine (ldp_read h).mono ?_
  rintro e w' ⟨r2, rfl, h1, h2, ⟨mb, e1, e2, e3⟩, h4, h5⟩
  refine ⟨mb, r2.ms.2.2, r2.tm, r2.vt, r2.fr, r2.dn.1, r2.dn.2.2, r2.ins.1, r2.ins.2.1, r2.ins.2.2, ?_, e2, e3, h4, h5⟩
  unfold Rf.out
  rw [e1, h1, h2]

theorem own_blk {w : World} {N sz n c : Nat} {e : TypeId} {ao : Option Addr} {xs : List Value} (h : w.ownsRow N e sz (.slice ao n c) n xs) (hn : xs ≠ []) : ∃ g cur, ao = some ⟨g, 0, none⟩ ∧ Blk w g e cur ∧ ∀ (j : Nat) (u : Value), xs[j]? = some u → cur[j]? = some u := by
  rcases h.2 with ⟨_, rfl⟩ | ⟨g, cap, cur, he, hb, hg, hnc, hcm, hcs, htake⟩
  · exact absurd (List.eq_nil_of_length_eq_zero (by simpa using h.1)) hn
  · simp only [Value.slice.injEq] at he
    obtain ⟨rfl, _, rfl⟩ := he
    refine ⟨g, cur, rfl, hg, fun j u hj => ?_⟩
    rw [← htake, List.getElem?_take] at hj
    split at hj
    · simpa using hj
    · cases hj

theorem ldr_step' {w : World} {b pb x : Nat} {T : Nat → Nat} {done : Bool} (f rd : Nat) (ok : Bool) (h : LdRE w b pb x T done) (hf0 : 1 ≤ f) (hf1 : f ≤ 4) :
    Calls Try.prog 17 #[.pointer (some ⟨b, 0, none⟩), .agg (amsg (f : Int) 1 1 (rd : Int) ok).toArray, .int .i64 0] w fun e w' => ∃ m1 m2 m3 y1 y2 y3 d1 dn d3 p1 p2 p3, e = .returned (.agg #[.slice m1 m2 m3, .int .u64 y1, .int .i64 y2, .int .u64 y3, .slice d1 dn d3, .slice p1 p2 p3]) ∧ dn = (if !done && decide (3 ≤ cn (tell T f rd) 5) then 1 else 0) ∧
      (dn = 1 → ∃ db cs, d1 = some ⟨db, 0, none⟩ ∧ Blk w' db 46 cs ∧ cs[0]? = some (.int .u64 7) ∧ cs[1]? = some (.int .u64 1)) ∧ (dn : Int) ≤ (d3 : Int) ∧
      LdRE w' b pb x (tell T f rd) (done || decide (3 ≤ cn (tell T f rd) 5)) ∧ Keeps [b, pb] w w' := by
  refine (ldr_step f rd ok h hf0 hf1).mono ?_
  rintro e w' ⟨r2, rfl, h1, h2, h3⟩
  have hl := h2.1
  have hcap : r2.dn.2.1 ≤ r2.dn.2.2 := by
    rcases h2.2 with ⟨he, _⟩ | ⟨g, cap, cur, he, _, _, hn, _⟩
    · simp only [Value.slice.injEq] at he; omega
    · simp only [Value.slice.injEq] at he; omega
  refine ⟨r2.ms.1, r2.ms.2.1, r2.ms.2.2, r2.tm, r2.vt, r2.fr, r2.dn.1, r2.dn.2.1, r2.dn.2.2, r2.ins.1, r2.ins.2.1, r2.ins.2.2, rfl, ?_, ?_, by omega, h1, h3⟩
  · rw [dns_length] at hl
    split at hl
    · rename_i hc
      rw [if_pos hc]
      simp only [List.length_cons, List.length_nil] at hl
      omega
    · rename_i hc
      rw [if_neg hc]
      simp only [List.length_nil] at hl
      omega
  · intro h1
    have hc : (!done && decide (3 ≤ cn (tell T f rd) 5)) = true := by
      cases hcc : (!done && decide (3 ≤ cn (tell T f rd) 5)) with
      | true => rfl
      | false =>
        rw [hcc] at hl
        simp only [Bool.false_eq_true, if_false, dns, List.length_nil] at hl
        omega
    rw [hc] at h2
    simp only [if_true] at h2
    obtain ⟨db, cs, e1, e2, e3⟩ := own_blk h2 (by simp [dns, Rq.done])
    exact ⟨db, cs, e1, e2, e3 0 _ rfl, e3 1 _ rfl⟩

theorem cn_le (T : Nat → Nat) (k : Nat) : cn T k ≤ k + 1 := by
  induction k with
  | zero => simp [cn]
  | succ k ih => simp only [cn]; split <;> omega

/-- what the law was told -/
def told (T : Nat → Nat) : Array Value := #[.int .u64 (T 0 : Nat), .int .u64 (T 1 : Nat), .int .u64 (T 2 : Nat), .int .u64 (T 3 : Nat), .int .u64 (T 4 : Nat)]
theorem told_at (T : Nat → Nat) (j : Nat) (h : j < 5) : (told T)[j]? = some (.int .u64 (T j : Nat)) := by
  match j, h with
  | 0, _ => rfl
  | 1, _ => rfl
  | 2, _ => rfl
  | 3, _ => rfl
  | 4, _ => rfl
theorem told_set (T : Nat → Nat) (f rd : Nat) (h : f < 5) : (told T).setIfInBounds f (.int .u64 ((max (T f) rd : Nat) : Int)) = told (tell T f rd) := by
  match f, h with
  | 0, _ => rfl
  | 1, _ => rfl
  | 2, _ => rfl
  | 3, _ => rfl
  | 4, _ => rfl
theorem told_nostr (T : Nat → Nat) : ∀ v ∈ (told T).toList, ∀ s, v ≠ Value.string s := by
  intro v hv s e
  subst e
  simp [told] at hv

/-- a block of another type turns -/
theorem LdRE.keepB {w w' : World} {b pb x : Nat} {T : Nat → Nat} {done : Bool} {cs : Array Value} {t : TypeId} (h : LdRE w b pb x T done) (hk : Keeps [x] w w') (hX : Blk w x t cs) (hs : ∀ v ∈ cs.toList, ∀ s, v ≠ Value.string s) (h1 : 71 ≠ t) (h2 : 84 ≠ t) (h3 : 77 ≠ t) : LdRE w' b pb x T done := by
  obtain ⟨r, g, ps, p0, h⟩ := h
  have hL := h.S.R.L.at
  have hlx : r.lg ≠ x := by obtain ⟨_, _, hLb, _, _⟩ := hL; exact hLb.ne hX h3
  have hQ := (h.Q.keep hk (fun y hy => .inl (by simp at hy; simp [hy]))).grow hk.size
  exact ⟨r, g, ps, p0, { h with S := ⟨RC.of (h.S.R.B.keep hk (by simpa using h.S.R.B.ne hX h1)) (h.S.R.P.keep hk (by simpa using h.S.R.P.ne hX h2)) (hL.keepB hk hX hs hlx) h.S.R.hps, hQ.add (fun y hy => .inl (by simp at hy ⊢; omega)), h.S.ms, h.S.dn, h.S.fr⟩, Q := hQ }⟩

set_option maxRecDepth 100000 in
set_option maxHeartbeats 16000000 in
theorem reads_any (aa : Option Addr) (ac : Nat) (al : List UInt8) (w : World) (hA : BytesIn' w aa al) :
    Calls Try.prog 6 #[.slice aa al.length ac] w fun e w' => e = .returned (.bool true) ∧ Keeps [] w w' := by
  have HA := Lib.hid hA
  clear hA
  go_enter Try.func6, Try.ntmps6
  go_wp2_with fail
  refine (rknown w).mono ?_
  rintro e w0 ⟨rfl, hk0⟩
  by_cases h2 : 20 < al.length
  · have n2 : (20 : Int) < (al.length : Int) := by omega
    go_wp2_with fail
    go_ret
    exact ⟨rfl, hk0⟩
  have n2 : ¬ ((20 : Int) < (al.length : Int)) := by omega
  have hal : al.length ≤ 20 := by omega
  clear h2
  go_wp2_with fail
  refine (lnew 0 0 none 0 0 [] w0 rfl (Sl.none _ _) (by simp)).mono ?_
  rintro e w2 ⟨lg, rfl, hlg, hL2, hk2⟩
  have hk02 := hk0.trans hk2
  go_wp2_with fail
  refine (rnewN 5 0 lg ⟨0, 0, []⟩ 0 w2 hL2 (by omega) (by omega)).mono ?_
  rintro e w3 ⟨b, rfl, hbw, hB3, hL3, hk3⟩
  have hk03 := hk02.trans hk3
  have hlN : w.heap.size ≤ lg := by have := hk0.size; omega
  have hbN : w.heap.size ≤ b := by have := hk02.size; omega
  have hW : TickSt w3 w.heap.size b lg 5 0 ⟨0, 0, []⟩ 0 := .inl ⟨by omega, hB3, hL3⟩
  clear hk2 hk0 hk02 hL2 hk3 hB3 hL3 hlg hbw
  go_wp2_with fail
  go_loopw [5] (fun i wr => ∃ j : Nat, i = .int .i64 (j : Int) ∧ j ≤ 10 ∧ TickSt wr w.heap.size b lg 5 0 ⟨0, 0, []⟩ j ∧ Keeps [] w wr) (fun i _ => 10 - (intOf i).toNat)
  case atStart => exact ⟨0, rfl, by omega, hW, hk03⟩
  case round =>
    obtain ⟨j, rfl, hj, hWj, hkj⟩ := hrel
    clear hW hk03
    by_cases hlt : j < 10
    · have q1 : IntKind.i64.wrap ((j : Int) + 1) = j + 1 := IntWalk.i64_in _ (by omega)
      have n3 : (j : Int) < 10 := by omega
      go_wp2_with fail
      refine (tickN_any w.heap.size b lg 5 0 ⟨0, 0, []⟩ j wr hWj hkj.size hlt (by omega) (by omega) (Int.le_refl _) (by decide) (by omega) (by omega)).mono ?_
      rintro e w3 ⟨⟨v, rfl⟩, hW3, hk3⟩
      go_wp2_with fail
      go_roundw
      case rel => exact ⟨j + 1, by simp, by omega, hW3, hkj.step hk3 (by intro x hx; simp at hx; right; omega)⟩
      case measure => simp [intOf]; omega
    · obtain rfl : j = 10 := by omega
      rcases hWj with ⟨h, _⟩ | ⟨_, vb, hvN, hCT⟩
      · omega
      clear hlt hj
      have hCT' : CT wr b vb (r0R lg vb) ⟨0, 0, []⟩ (own1 0 5) := hCT
      clear hCT
      go_wp2_with fail
      go_loopw [6] (fun i wr => ∃ j : Nat, i = .int .i64 (j : Int) ∧ ((j = 1 ∧ CT wr b vb (r0R lg vb) ⟨0, 0, []⟩ (own1 0 5)) ∨ (j = 2 ∧ CT wr b vb (r0R lg vb).bare ⟨0, 0, []⟩ ((own1 0 5).set 1 true)) ∨ (j = 3 ∧ ∃ pb, w.heap.size ≤ pb ∧ LdPE wr b pb 0)) ∧ Keeps [] w wr) (fun i _ => 10 - (intOf i).toNat)
      case atStart => exact ⟨1, rfl, .inl ⟨rfl, hCT'⟩, hkj⟩
      case round =>
        obtain ⟨j, rfl, hjj, hkr⟩ := hrel
        clear hCT' hkj
        rcases hjj with ⟨rfl, hCT⟩ | ⟨rfl, hCT⟩ | ⟨rfl, pb, hpN, hLd⟩
        · have HS := Lib.hid (vote1 hCT)
          simp only [Int.natCast_one]
          go_wp2_with (first | (refine wpList_built rfl 60 _ rfl _ _ (built_WR 1) rfl ?_) | (go_at_call 17; fail))
          refine HS.out.mono ?_
          rintro e w4 ⟨v, rfl, hC4, hk4⟩
          clear HS hCT
          go_wp2_with fail
          go_roundw
          case rel => exact ⟨2, rfl, .inr (.inl ⟨rfl, hC4⟩), hkr.step hk4 (fun x hx => .inr (by simp at hx; omega))⟩
          case measure => simp [intOf]
        · have HS := Lib.hid (vote2 hCT)
          go_wp2_with (first | (refine wpList_built rfl 60 _ rfl _ _ (built_WR 2) rfl ?_) | (go_at_call 17; fail))
          refine HS.out.mono ?_
          rintro e w4 ⟨v, pb, rfl, hpw, hL4, hk4⟩
          have hpN : w.heap.size ≤ pb := by have := hkr.size; omega
          clear HS hCT
          go_wp2_with fail
          go_roundw
          case rel => exact ⟨3, rfl, .inr (.inr ⟨rfl, pb, hpN, hL4⟩), hkr.step hk4 (fun x hx => .inr (by simp at hx; omega))⟩
          case measure => simp [intOf]
        · rw [show ((3 : Nat) : Int) = 3 from rfl]
          go_wp2_with fail
          go_loopw [7] (fun i wr => ∃ k : Nat, i = .int .i64 ((k : Int) + 1) ∧ k ≤ 2 ∧ LdPE wr b pb k ∧ Keeps [] w wr) (fun i _ => 10 - (intOf i).toNat)
          case atStart => exact ⟨0, rfl, by omega, hLd, hkr⟩
          case round =>
            obtain ⟨k, rfl, hk, hLk, hkk⟩ := hrel
            clear hLd hkr
            by_cases hlt : k < 2
            · have n3 : (k : Int) + 1 ≤ 2 := by omega
              have q1 : IntKind.i64.wrap ((k : Int) + 1 + 1) = k + 1 + 1 := IntWalk.i64_in _ (by omega)
              have HS := Lib.hid (ldp_step hLk hlt)
              go_wp2_with (first | (refine wpList_built rfl 60 _ rfl _ _ (built_AR ((k : Int) + 1)) rfl ?_) | (go_at_call 17; fail))
              refine HS.out.mono ?_
              rintro e w4 ⟨⟨v, rfl⟩, hL4, hk4⟩
              clear HS
              go_wp2_with fail
              go_roundw
              case rel => exact ⟨k + 1, by simp, by omega, hL4, hkk.step hk4 (fun x hx => .inr (by simp at hx; omega))⟩
              case measure => simp [intOf]; omega
            · obtain rfl : k = 2 := by omega
              clear hlt hk
              have HR := Lib.hid (ldp_role hLk)
              have HC := Lib.hid (ldp_commit hLk)
              have HD := Lib.hid (ldp_read' hLk)
              go_wp2_with fail
              refine HR.out.mono ?_
              rintro e w' ⟨rfl, hw⟩
              obtain rfl := hw.symm
              clear hw HR
              go_wp2_with fail
              refine HC.out.mono ?_
              rintro e w' ⟨rfl, hw⟩
              obtain rfl := hw.symm
              clear hw HC
              go_wp2_with fail
              refine HD.out.mono ?_
              rintro e w5 ⟨mb, mc, y1, y2, y3, d1, d3, p1, p2, p3, rfl, hmb, hm8, hLd5, hk5⟩
              clear HD
              go_upto_region 23 with (fail)
              have hY := Blk.fresh w5 39 #[.slice (some ⟨mb, 0, none⟩) 4 mc, .int .u64 y1, .int .i64 y2, .int .u64 y3, .slice d1 0 d3, .slice p1 p2 p3]
              have hkY := (Keeps.refl [] w5).alloc (.cells #[.slice (some ⟨mb, 0, none⟩) 4 mc, .int .u64 y1, .int .i64 y2, .int .u64 y3, .slice d1 0 d3, .slice p1 p2 p3] 39)
              have hL6 := fun x (hx : w5.heap.size ≤ x) => (hLd5 x hx).keep hkY (fun _ hy => by cases hy)
              have hm6 := hkY.cellSome hm8 (by simp)
              have hk06 := (hkk.step hk5 (fun x hx => .inr (by simp at hx; omega))).trans hkY
              have hsY := hkY.size
              generalize World.alloc w5 _ = w6 at *
              generalize w5.heap.size = xb at *
              clear hLd5 hm8 hk5 hkk hkY
              have hcY := hY.cell
              have hlY := hY.lt
              have hmb6 : mb < w6.heap.size := by omega
              go_wp2_with fail
              have hT0 := Blk.fresh w6 65 (told (fun _ => 0))
              have hkT := (Keeps.refl [] w6).alloc (.cells (told (fun _ => 0)) 65)
              have hL7 := (hL6 w6.heap.size (by omega)).keep hkT (fun _ hy => by cases hy)
              have hk07 := hk06.trans hkT
              have hxN : w.heap.size ≤ w6.heap.size := hk06.size
              have hT0' : Blk (w6.alloc (.cells #[.int .u64 0, .int .u64 0, .int .u64 0, .int .u64 0, .int .u64 0] 65)) w6.heap.size 65 (told (fun _ => 0)) := hT0
              have hL7' : LdRE (w6.alloc (.cells #[.int .u64 0, .int .u64 0, .int .u64 0, .int .u64 0, .int .u64 0] 65)) b pb w6.heap.size (fun _ => 0) false := hL7
              have hk07' : Keeps [] w (w6.alloc (.cells #[.int .u64 0, .int .u64 0, .int .u64 0, .int .u64 0, .int .u64 0] 65)) := hk07
              clear hT0 hkT hL7 hk07 hL6 hm6 hk06 hcY hlY hmb6 hY hsY
              generalize World.alloc w6 _ = w7 at *
              generalize w6.heap.size = tb at *
              go_loopw [10, 11] (fun v10 v11 wr => ∃ (q : Nat) (done : Bool) (T : Nat → Nat), v10 = .bool done ∧ v11 = .int .i64 (q : Int) ∧ q ≤ al.length ∧ LdRE wr b pb tb T done ∧ Blk wr tb 65 (told T) ∧ Keeps [] w wr) (fun _ v _ => 40 - (intOf v).toNat)
              case atStart => exact ⟨0, false, fun _ => 0, rfl, rfl, by omega, hL7', hT0', hk07'⟩
              case round =>
                obtain ⟨q, done, T, rfl, rfl, hq, hLq, hTq, hkq⟩ := hrel
                clear hL7' hT0' hk07'
                by_cases hlt : q < al.length
                rotate_left
                · have n3 : ¬ ((q : Int) < (al.length : Int)) := by omega
                  go_wp2_with fail
                  go_ret
                  exact ⟨rfl, hkq⟩
                have n3 : (q : Int) < (al.length : Int) := by omega
                obtain ⟨bb, o, hta, hcell⟩ := HA.out q hlt
                have hcell := hkq.cellSome hcell (by simp)
                have hbb : bb < wr.heap.size := block_lt_of_cell hcell
                have hxb := al[q].toNat_lt
                generalize al[q].toNat = x at *
                subst hta
                obtain ⟨f, hf⟩ : ∃ f : Nat, f = x % 4 + 1 := ⟨_, rfl⟩
                obtain ⟨rd, hrd⟩ : ∃ rd : Nat, rd = x / 4 % 4 := ⟨_, rfl⟩
                have e1 : IntKind.i64.wrap ((x : Int) % 4 + 1) = (f : Int) := by rw [IntWalk.i64_in _ (by omega)]; omega
                have e2 : (x : Int) / 4 % 4 = (rd : Int) := by omega
                have e3 : IntKind.i64.wrap ((x : Int) % 4) = (x : Int) % 4 := IntWalk.i64_in _ (by omega)
                have e4 : IntKind.u64.wrap (rd : Int) = (rd : Int) := IntWalk.u64_in _ (by omega)
                have e5 : IntKind.i64.wrap ((q : Int) + 1) = q + 1 := IntWalk.i64_in _ (by omega)
                have hf1 : 1 ≤ f := by omega
                have hf4 : f ≤ 4 := by omega
                have hf5 : (f : Int) < 5 := by omega
                clear hf hrd hlt
                go_upto_region 30 with (fail)
                go_quiet (fail)
                have hLd := hLq.keep ((Keeps.refl [] wr).drewN nq) (fun _ hx => by cases hx)
                have hTd := hTq.drewN nq
                have hkd := hkq.drewN nq
                have hcd : (wr.drewN nq).cell? ⟨bb, o + q, none⟩ = some (.int .u8 (x : Nat)) := hcell
                generalize World.drewN wr nq = w8 at *
                clear e1 e2 e3 e4 hcell hLq hTq hkq hbb
                have HS := Lib.hid (fun ok => ldr_step' f rd ok hLd hf1 hf4)
                have hbp := hLd.lt
                go_wp2_with (first | (refine wpList_built rfl 60 _ rfl _ _ (built_BR (f : Int) (rd : Int) _) rfl ?_) | (go_at_call 17; fail))
                refine (HS.out _).mono ?_
                rintro e w9 ⟨m1, m2, m3, y1, y2, y3, d1, dn, d3, p1, p2, p3, rfl, hdn, hd1, hdc, hL9, hk9⟩
                clear HS
                have hT9 := hTd.keep hk9 (by
                  obtain ⟨r, g, ps, p0, h⟩ := hLd
                  simp only [List.mem_cons, List.not_mem_nil, or_false, not_or]
                  exact ⟨hTd.ne h.S.R.B (by decide), hTd.ne h.S.R.P (by decide)⟩)
                have hk09 := hkd.step hk9 (fun x hx => .inr (by simp at hx; omega))
                clear hLd hTd hkd hk9 hcd hxb
                have HDN := Lib.hid hdn
                clear hdn
                go_upto_region 32 with (fail)
                have hY := Blk.fresh w9 39 #[.slice m1 m2 m3, .int .u64 y1, .int .i64 y2, .int .u64 y3, .slice d1 dn d3, .slice p1 p2 p3]
                have hkY := (Keeps.refl [] w9).alloc (.cells #[.slice m1 m2 m3, .int .u64 y1, .int .i64 y2, .int .u64 y3, .slice d1 dn d3, .slice p1 p2 p3] 39)
                have hLa := hL9.keep hkY (fun _ hy => by cases hy)
                have hTa := hT9.keep hkY (by simp)
                have hka := hk09.trans hkY
                have hda : dn = 1 → ∃ db cs, d1 = some ⟨db, 0, none⟩ ∧ Blk (w9.alloc (.cells #[.slice m1 m2 m3, .int .u64 y1, .int .i64 y2, .int .u64 y3, .slice d1 dn d3, .slice p1 p2 p3] 39)) db 46 cs ∧ cs[0]? = some (.int .u64 7) ∧ cs[1]? = some (.int .u64 1) := by
                  intro h1
                  obtain ⟨db, cs, e1, e2, e3, e4⟩ := hd1 h1
                  exact ⟨db, cs, e1, e2.keep hkY (by simp), e3, e4⟩
                have HDA := Lib.hid hda
                clear hda hd1 hL9 hT9 hk09 hkY
                generalize World.alloc w9 _ = wa at *
                generalize w9.heap.size = yb at *
                have hty : tb ≠ yb := hTa.ne hY (by decide)
                obtain ⟨T', hT'⟩ : ∃ T', tell T f rd = T' := ⟨_, rfl⟩
                rw [hT'] at hLa HDN
                have HT' := Lib.hid hT'
                obtain ⟨dn', hdn'⟩ : ∃ dn', (done || decide (3 ≤ cn T' 5)) = dn' := ⟨_, rfl⟩
                rw [hdn'] at hLa
                have HDN' := Lib.hid hdn'
                clear hdn'
                go_cut [] (fun wx => Blk wx tb 65 (told T') ∧ LdRE wx b pb tb T' dn' ∧ Blk wx yb 39 #[.slice m1 m2 m3, .int .u64 y1, .int .i64 y2, .int .u64 y3, .slice d1 dn d3, .slice p1 p2 p3] ∧ (dn = 1 → ∃ db cs, d1 = some ⟨db, 0, none⟩ ∧ Blk wx db 46 cs ∧ cs[0]? = some (.int .u64 7) ∧ cs[1]? = some (.int .u64 1)) ∧ Keeps [] w wx)
                case first =>
                  subst hT'
                  have hct : wa.cell? ⟨tb, f, none⟩ = some (.int .u64 (T f : Nat)) := by rw [hTa.cell]; exact told_at T f (by omega)
                  have hlt := hTa.lt
                  have hft := hTa.free
                  by_cases hmk : T f < rd
                  · have n5 : (T f : Int) < (rd : Int) := by omega
                    have HZ := Lib.hid (show (rd : Int) = ((max (T f) rd : Nat) : Int) by omega)
                    clear hmk
                    go_wp2_with fail
                    go_meet
                    have hks := (Keeps.refl [tb] wa).set (p := ⟨tb, f, none⟩) (by simp) (.int .u64 (rd : Int))
                    have hTz := hTa.put f (.int .u64 (rd : Int))
                    rw [HZ.out, told_set T f rd (by omega), ← HZ.out] at hTz
                    refine ⟨hTz, hLa.keepB hks hTa (told_nostr T) (by decide) (by decide) (by decide), hY.keep hks (by simpa using fun e => hty e.symm), ?_, hka.step hks (fun x hx => .inr (by simp at hx; omega))⟩
                    intro h1
                    obtain ⟨db, cs, e1, e2, e3, e4⟩ := HDA.out h1
                    exact ⟨db, cs, e1, e2.keep hks (by simpa using e2.ne hTa (by decide)), e3, e4⟩
                  · have n5 : ¬ ((T f : Int) < (rd : Int)) := by omega
                    have HZ := Lib.hid (show (T f : Int) = ((max (T f) rd : Nat) : Int) by omega)
                    clear hmk
                    go_wp2_with fail
                    go_meet
                    have hks := (Keeps.refl [tb] wa).set (p := ⟨tb, f, none⟩) (by simp) (.int .u64 (T f : Int))
                    have hTz := hTa.put f (.int .u64 (T f : Int))
                    rw [HZ.out, told_set T f rd (by omega), ← HZ.out] at hTz
                    refine ⟨hTz, hLa.keepB hks hTa (told_nostr T) (by decide) (by decide) (by decide), hY.keep hks (by simpa using fun e => hty e.symm), ?_, hka.step hks (fun x hx => .inr (by simp at hx; omega))⟩
                    intro h1
                    obtain ⟨db, cs, e1, e2, e3, e4⟩ := HDA.out h1
                    exact ⟨db, cs, e1, e2.keep hks (by simpa using e2.ne hTa (by decide)), e3, e4⟩
                case rest =>
                obtain ⟨hTb, hLb, hYb, hDb, hkb⟩ := hcut
                clear hT' hTa hLa hY hka HDA HT'
                have HCB := Lib.hid (And.intro hLb (And.intro hDb hkb))
                clear hLb hDb hkb
                have hlT := hTb.lt
                have hlY := hYb.lt
                go_wp2_with fail
                go_loopw [15, 16] (fun v15 v16 wr => ∃ k : Nat, v15 = .int .i64 ((cn T' k : Nat) : Int) ∧ v16 = .int .i64 (k : Int) ∧ 1 ≤ k ∧ k ≤ 5 ∧ wr = wc) (fun _ v _ => 5 - (intOf v).toNat)
                case atStart => exact ⟨1, by simp [cn], rfl, by omega, by omega, rfl⟩
                case round =>
                  obtain ⟨k, rfl, rfl, hk1, hk5, hw⟩ := hrel
                  obtain rfl := hw.symm
                  clear hw
                  by_cases hlt : k < 5
                  · have n4 : (k : Int) < 5 := by omega
                    have hct : wc.cell? ⟨tb, k, none⟩ = some (.int .u64 (T' k : Nat)) := by rw [hTb.cell]; exact told_at T' k hlt
                    have q1 : IntKind.i64.wrap ((k : Int) + 1) = k + 1 := IntWalk.i64_in _ (by omega)
                    have hcle : cn T' k ≤ k + 1 := cn_le T' k
                    have q2 : IntKind.i64.wrap (((cn T' k : Nat) : Int) + 1) = ((cn T' k : Nat) : Int) + 1 := IntWalk.i64_in _ (by omega)
                    by_cases ht : 2 ≤ T' k
                    · have n5 : (2 : Int) ≤ (T' k : Int) := by omega
                      have HE := Lib.hid (show cn T' (k + 1) = cn T' k + 1 by simp only [cn]; rw [if_pos ⟨hk1, ht⟩])
                      clear hcle
                      generalize cn T' k = ck at *
                      go_wp2_with fail
                      go_roundw
                      case rel => exact ⟨k + 1, by rw [HE.out]; simp, by simp, by omega, by omega, trivial⟩
                      case measure => simp [intOf]; omega
                    · have n5 : ¬ ((2 : Int) ≤ (T' k : Int)) := by omega
                      have HE := Lib.hid (show cn T' (k + 1) = cn T' k by simp only [cn]; rw [if_neg (fun h => ht h.2)]; omega)
                      clear hcle
                      generalize cn T' k = ck at *
                      go_wp2_with fail
                      go_roundw
                      case rel => exact ⟨k + 1, by rw [HE.out], by simp, by omega, by omega, trivial⟩
                      case measure => simp [intOf]; omega
                  · obtain rfl : k = 5 := by omega
                    rw [show ((5 : Nat) : Int) = 5 from rfl]
                    have hdn := HDN.out
                    have hdn' := HDN'.out
                    have hcY := hYb.cell
                    clear hlt hk1 hk5
                    generalize hcn : cn T' 5 = ck at *
                    clear hcn
                    cases done with
                    | true =>
                      simp only [Bool.not_true, Bool.false_and, Bool.false_eq_true, if_false] at hdn
                      simp only [Bool.true_or] at hdn'
                      subst hdn
                      subst hdn'
                      clear HDN HDN'
                      go_wp2_with fail
                      go_roundw
                      case rel => exact ⟨q + 1, true, T', rfl, by simp, by omega, HCB.out.1, hTb, HCB.out.2.2⟩
                      case measure => simp [intOf]; omega
                    | false =>
                      simp only [Bool.not_false, Bool.true_and, decide_eq_true_eq] at hdn
                      simp only [Bool.false_or] at hdn'
                      by_cases hc : 3 ≤ ck
                      · rw [if_pos hc] at hdn
                        have hc2 : decide (3 ≤ ck) = true := by simpa using hc
                        rw [hc2] at hdn'
                        subst hdn
                        subst hdn'
                        obtain ⟨db, cs, rfl, hD, d0, d1'⟩ := HCB.out.2.1 rfl
                        have c0 : wc.cell? ⟨db, 0, none⟩ = some (.int .u64 7) := by rw [hD.cell]; exact d0
                        have c1 : wc.cell? ⟨db, 1, none⟩ = some (.int .u64 1) := by rw [hD.cell]; exact d1'
                        have hlD := hD.lt
                        have n6 : (3 : Int) ≤ (ck : Int) := by omega
                        clear HDN HDN' hc hc2 d0 d1' hD
                        go_wp2_with fail
                        go_roundw
                        case rel => exact ⟨q + 1, true, T', rfl, by simp, by omega, HCB.out.1, hTb, HCB.out.2.2⟩
                        case measure => simp [intOf]; omega
                      · rw [if_neg hc] at hdn
                        have hc2 : decide (3 ≤ ck) = false := by simpa using hc
                        rw [hc2] at hdn'
                        subst hdn
                        subst hdn'
                        have n6 : ¬ ((3 : Int) ≤ (ck : Int)) := by omega
                        clear HDN HDN' hc hc2
                        go_wp2_with fail
                        go_roundw
                        case rel => exact ⟨q + 1, false, T', rfl, by simp, by omega, HCB.out.1, hTb, HCB.out.2.2⟩
                        case measure => simp [intOf]; omega
end Go.Proofs.Ytbegjhfkfmhidaa
