/- RaftVotes: the walk. -/
import Derived.Test.YtbegjhfkfmhidaaRaft17
import Derived.Test.YtbegjhfkfmhidaaRaft12
import Derived.Test.YtbegjhfkfmhidaaWin


namespace Go.Proofs.Ytbegjhfkfmhidaa
open Go.RowKit

theorem ownsRow_keep {w w' : World} {N sz n c : Nat} {e : TypeId} {ao : Option Addr} {xs : List Value} {L : List Nat} (h : w.ownsRow N e sz (.slice ao n c) n xs) (hk : Keeps L w w') (hL : ∀ x ∈ blks ao, x ∉ L) : w'.ownsRow N e sz (.slice ao n c) n xs := by
  refine ⟨h.1, ?_⟩
  rcases h.2 with h0 | ⟨g, cap, cur, he, hb, hg, rest⟩
  · exact .inl h0
  · simp only [Value.slice.injEq] at he
    obtain ⟨rfl, _, rfl⟩ := he
    exact .inr ⟨g, c, cur, rfl, hb, (hk.block g (Array.getElem?_eq_some_iff.1 hg).1 (hL g (by simp))).trans hg, rest⟩
theorem ownsRow_lt {w : World} {N sz n c : Nat} {e : TypeId} {ao : Option Addr} {xs : List Value} (h : w.ownsRow N e sz (.slice ao n c) n xs) : ∀ x ∈ blks ao, N ≤ x ∧ x < w.heap.size := by
  intro x hx
  cases ao with
  | none => simp at hx
  | some ad =>
    simp only [blks, List.mem_singleton] at hx
    subst hx
    exact World.ownsRow.lt h _ rfl
/-- what is owned is another block than one of another type -/
theorem ownsRow_ne {w : World} {N sz n c b : Nat} {e t : TypeId} {ao : Option Addr} {xs : List Value} {cs : Array Value} (h : w.ownsRow N e sz (.slice ao n c) n xs) (hB : Blk w b t cs) (ht : e ≠ t) : ∀ x ∈ blks ao, x ≠ b := by
  intro x hx
  rcases h.2 with ⟨h0, _⟩ | ⟨g, cap, cur, he, hb, hg, rest⟩
  · simp only [Value.slice.injEq] at h0
    obtain ⟨rfl, _, _⟩ := h0
    simp at hx
  · simp only [Value.slice.injEq] at he
    obtain ⟨rfl, _, rfl⟩ := he
    simp at hx
    subst hx
    rintro rfl
    unfold Blk at hB
    rw [hg] at hB
    simp only [Option.some.injEq, Obj.cells.injEq] at hB
    exact ht hB.2.1


/-- a struct is stored into a block that is known whole, as a step of a region that draws -/
theorem step_store_agg {P : Program} {ops : Array Oper} {o : Oper} {a : Act} {w : World} {K : Act → World → Prop} {Q : Exit → Act → World → Prop} {E : Prop}
    (hgd : o.guard = none) (hdst : o.dst = none) (ty : TypeId) (x y : Operand) (ho : o.op = .store ty x y) (b off : Nat) (hx : a.eval x = .pointer (some ⟨b, off, none⟩))
    (vs : List Value) (hy : a.eval y = .agg vs.toArray) (t : TypeId) (cs : Array Value) (hB : Blk w b t cs) (hsz : (P.info? ty).map (·.size) = some vs.length)
    (hfit : off + vs.length ≤ cs.size) (h1 : vs.all Value.oneCell' = true) (cs' : Array Value) (hcs : (cs.toList.take off ++ vs ++ cs.toList.drop (off + vs.length)).toArray = cs')
    (h : ∀ w', Blk w' b t cs' → Keeps [b] w w' → K a w') : if Region.wanted o (yielded ops a.tmps) = true then Oper.wp P o a w K Q else E := by
  have hw : Region.wanted o (yielded ops a.tmps) = true := by simp [Region.wanted, hgd]
  rw [if_pos hw]
  have hr := run_store_part (P := P) b off t ty cs vs hB hsz hfit h1
  rw [hcs] at hr
  unfold Oper.wp execOp
  simp only [ho, hx, hy, Instr.storeAt, Instr.sureAddr, Sem.run_bind, Sem.run_pure, Result.andThen_ok, hr, Oper.upon]
  rw [hdst]
  exact h _ (hB.row cs') (Keeps.row w b cs')

theorem LogAt.keepNew {w w' : World} {lg : Nat} {g : Lg} {L : List Nat} (h : LogAt w lg g) (hk : Keeps L w w') (hL : ∀ x ∈ L, w.heap.size ≤ x) : LogAt w' lg g := by
  obtain ⟨ao, c, hB, hS, hap⟩ := h
  have hno : ∀ x, x < w.heap.size → x ∉ L := fun x hx hm => by have := hL x hm; omega
  exact ⟨ao, c, hB.keep hk (hno _ hB.lt), hS.keep hk (fun ad ha hx => hno _ (hS.lt ha hx)), hap⟩

/-- bytes that came in -/
def BytesAt (w : World) (a : Option Addr) (l : List UInt8) : Prop := ∀ i (hi : i < l.length), ∃ b o, a = some ⟨b, o, none⟩ ∧ w.cell? ⟨b, o + i, none⟩ = some (.int .u8 (l[i].toNat : Nat))

/-- a follower of a group of five, as the law has it -/
def Fol (w : World) (b lg : Nat) (g : Lg) (r : Rf) : Prop := Blk w b 71 r.cells ∧ LogAt w lg g ∧ r.lg = lg ∧ r.id = 0 ∧ r.n = 5 ∧ r.ro = 0 ∧ r.ms = (none, 0, 0) ∧ 0 ≤ r.tm ∧ r.tm ≤ 20 ∧ -1 ≤ r.vt ∧ r.vt ≤ 4
theorem Fol.upTo {r : Rf} (h1 : r.id = 0 ∧ r.n = 5 ∧ r.ro = 0 ∧ r.ms = (none, 0, 0) ∧ 0 ≤ r.tm ∧ r.tm ≤ 20 ∧ -1 ≤ r.vt ∧ r.vt ≤ 4) (T : Int) (hT0 : 0 ≤ T) (hT : T ≤ 20) :
    (r.upTo T).lg = r.lg ∧ (r.upTo T).id = 0 ∧ (r.upTo T).n = 5 ∧ (r.upTo T).ro = 0 ∧ (r.upTo T).ms = (none, 0, 0) ∧ 0 ≤ (r.upTo T).tm ∧ (r.upTo T).tm ≤ 20 ∧ -1 ≤ (r.upTo T).vt ∧ (r.upTo T).vt ≤ 4 := by
  obtain ⟨a1, a2, a3, a4, a5, a6, a7, a8⟩ := h1
  unfold Rf.upTo
  split
  · exact ⟨rfl, a1, a2, rfl, a4, by simp only []; omega, by simp only []; omega, by simp only []; omega, by simp only []; omega⟩
  · exact ⟨rfl, a1, a2, a3, a4, a5, a6, a7, a8⟩
theorem Fol.vote {r : Rf} (ok : Bool) (fr : Int) (f0 : 1 ≤ fr) (f1 : fr ≤ 4) (h1 : r.id = 0 ∧ r.n = 5 ∧ r.ro = 0 ∧ r.ms = (none, 0, 0) ∧ 0 ≤ r.tm ∧ r.tm ≤ 20 ∧ -1 ≤ r.vt ∧ r.vt ≤ 4) :
    (r.vote ok fr).bare.lg = r.lg ∧ (r.vote ok fr).bare.id = 0 ∧ (r.vote ok fr).bare.n = 5 ∧ (r.vote ok fr).bare.ro = 0 ∧ (r.vote ok fr).bare.ms = (none, 0, 0) ∧ 0 ≤ (r.vote ok fr).bare.tm ∧ (r.vote ok fr).bare.tm ≤ 20 ∧ -1 ≤ (r.vote ok fr).bare.vt ∧ (r.vote ok fr).bare.vt ≤ 4 := by
  obtain ⟨a1, a2, a3, a4, a5, a6, a7, a8⟩ := h1
  cases ok
  · exact ⟨rfl, a1, a2, a3, rfl, a5, a6, a7, a8⟩
  · exact ⟨rfl, a1, a2, a3, rfl, a5, a6, by simp [Rf.vote, Rf.bare]; omega, by simp [Rf.vote, Rf.bare]; omega⟩
theorem rdsV {w : World} {bb o k : Nat} {x : Nat} (h : w.cell? ⟨bb, o + k, none⟩ = some (.int .u8 (x : Nat))) : ∀ p ∈ [((4 : Nat), fun w0 : World => w0.cell? ⟨bb, o + k, none⟩ = some (.int .u8 (x : Nat))), ((12 : Nat), fun w0 : World => w0.cell? ⟨bb, o + k, none⟩ = some (.int .u8 (x : Nat))), ((18 : Nat), fun w0 : World => w0.cell? ⟨bb, o + k, none⟩ = some (.int .u8 (x : Nat)))], p.2 w := by
  intro p hp
  simp at hp
  rcases hp with rfl | rfl | rfl <;> exact h

set_option maxRecDepth 100000 in
set_option maxHeartbeats 16000000 in
theorem votes_any (ta aa : Option Addr) (tc ac : Nat) (tl al : List UInt8) (w : World) (hT : BytesAt w ta tl) (hA : BytesAt w aa al) :
    Calls Try.prog 4 #[.slice ta tl.length tc, .slice aa al.length ac] w fun e w' => e = .returned (.bool true) ∧ Keeps [] w w' := by
  have HT := Lib.hid hT
  have HA := Lib.hid hA
  clear hT hA
  obtain ⟨i, z, hi, hz, hsz, hby, hzc⟩ := infoE
  go_enter Try.func4, Try.ntmps4
  go_wp2_with fail
  refine (rknown w).mono ?_
  rintro e w0 ⟨rfl, hk0⟩
  by_cases h1 : 10 < tl.length
  · have n1 : (10 : Int) < (tl.length : Int) := by omega
    go_wp2_with fail
    go_ret
    exact ⟨rfl, hk0⟩
  have n1 : ¬ ((10 : Int) < (tl.length : Int)) := by omega
  by_cases h2 : 40 < al.length
  · have n2 : (40 : Int) < (al.length : Int) := by omega
    go_wp2_with fail
    go_ret
    exact ⟨rfl, hk0⟩
  have n2 : ¬ ((40 : Int) < (al.length : Int)) := by omega
  go_wp2_with fail
  go_loopw [5, 6, 7] (fun v5 v6 v7 wr => ∃ (k t c : Nat) (ao : Option Addr) (es : List En), v5 = .slice ao k c ∧ v6 = .int .u64 (t : Int) ∧ v7 = .int .i64 (k : Int) ∧ k ≤ tl.length ∧ es.length = k ∧ t ≤ 1 + k ∧ wr.ownsRow w.heap.size 51 5 (.slice ao k c) k (ens es) ∧ Keeps [] w wr) (fun _ _ v _ => 20 - (intOf v).toNat)
  case atStart => exact ⟨0, 1, 0, none, [], rfl, rfl, rfl, by omega, rfl, by omega, World.ownsRow_nil _ _ _ _, hk0⟩
  case round =>
    obtain ⟨k, t, c, ao, es, rfl, rfl, rfl, hk, hes, ht, hO, hkk⟩ := hrel
    clear hk0
    by_cases hlt : k < tl.length
    · have n3 : (k : Int) < (tl.length : Int) := by omega
      obtain ⟨bb, o, hta, hcell⟩ := HT.out k hlt
      have hcell := hkk.cellSome hcell (by simp)
      have hxb := tl[k].toNat_lt
      generalize tl[k].toNat = x at *
      subst hta
      have q1 : IntKind.i64.wrap ((k : Int) + 1) = k + 1 := IntWalk.i64_in _ (by omega)
      have s0 : x % 3 / 2 ≤ 1 := by omega
      have s1 : IntKind.u64.wrap ((x : Int) % 3 / 2) = ((x % 3 / 2 : Nat) : Int) := by rw [IntWalk.u64_in _ (by omega)]; omega
      obtain ⟨t2, ht2⟩ : ∃ t2 : Nat, t2 = t + x % 3 / 2 := ⟨_, rfl⟩
      have s2 : IntKind.u64.wrap ((t : Int) + ((x % 3 / 2 : Nat) : Int)) = (t2 : Int) := by rw [IntWalk.u64_in _ (by omega)]; omega
      have s4 : t2 ≤ 2 + k := by omega
      clear ht2
      generalize x % 3 / 2 = y at *
      have hO1 := ownsRow_keep hO ((Keeps.refl [] wr).alloc (.cells #[.int .u64 (t2 : Int), .int .i64 0, .int .u64 0, .int .u64 0, .string ⟨#[]⟩] 51)) (by simp)
      have hkk1 := hkk.alloc (.cells #[.int .u64 (t2 : Int), .int .i64 0, .int .u64 0, .int .u64 0, .string ⟨#[]⟩] 51)
      have hN1 : Sl (wr.alloc (.cells #[.int .u64 (t2 : Int), .int .i64 0, .int .u64 0, .int .u64 0, .string ⟨#[]⟩] 51)) 5 (some ⟨wr.heap.size, 0, none⟩) 1 1 [.int .u64 (t2 : Int), .int .i64 0, .int .u64 0, .int .u64 0, .string ⟨#[]⟩] := Sl.of_blk (Blk.fresh _ _ _) rfl (by decide) (by simp [Value.oneCell'])
      go_upto_region 11 with (fail)
      clear hO hkk hcell
      go_wp2_with (at_builtin; refine wpList_append_by _ rfl _ _ 49 49 rfl w.heap.size 51 i z 5 48 Try.underlying49 hi hz hsz hby hzc ao k c (ens es) rfl hO1 _ rfl 1 _ (hN1.src Try.underlying49) (by unfold maxLen; omega) (by omega) hkk1.size ?_; intro a2 c2 w2 hO2 hka hba)
      have hkk2 := hkk1.step hka (fun x hx => .inr (ownsRow_lt hO1 x hx).1)
      clear hO1 hkk1 hN1 hka hba
      go_roundw
      case rel => exact ⟨k + 1, t2, c2, a2, es ++ [⟨t2, 0, 0, 0, ⟨#[]⟩⟩], by simp, by simp, by simp, by omega, by simp [hes], by omega, by rw [ens_append]; exact hO2, hkk2⟩
      case measure => simp [intOf]; omega
    · have n3 : ¬ ((k : Int) < (tl.length : Int)) := by omega
      obtain ⟨a', c', he, hSe, _⟩ := own_sl hO (ens_one es)
      simp only [Value.slice.injEq, true_and] at he
      obtain ⟨rfl, rfl⟩ := he
      have HES := Lib.hid hes
      have hk10 : k ≤ 10 := by omega
      clear hlt hO ht hes
      go_wp2_with fail
      refine (lnew 0 0 ao k c es wr HES.out.symm hSe (by have := HES.out; omega)).mono ?_
      rintro e w2 ⟨lg, rfl, hlg, hL2, hk2⟩
      have hSe2 := hSe.keep0 hk2
      have hk02 := hkk.trans hk2
      go_wp2_with fail
      refine (rnewN 5 10 lg ⟨0, 0, es⟩ 0 w2 hL2 (by omega) (by omega)).mono ?_
      rintro e w3 ⟨b, rfl, hbw, hB3, hL3, hk3⟩
      have hSe3 := hSe2.keep0 hk3
      have hk03 := hk02.trans hk3
      have hlN : w.heap.size ≤ lg := by have := hkk.size; omega
      have hbN : w.heap.size ≤ b := by have := hk02.size; omega
      have hbl : b ≠ lg := by have := hL2.lt; omega
      simp only [] at hB3
      clear hk2 hkk hSe hSe2 hk02 hL2 hk3
      generalize hT0 : (10 : Int) + (0 : Int).tmod 20 % 20 = tmo at hB3
      clear hT0
      go_upto_if 60 with (fail)
      go_cut [12] (fun v wx => v = .int .u64 ((⟨0, 0, es⟩ : Lg).at (⟨0, 0, es⟩ : Lg).last) ∧ wx = w3)
      case first =>
        cases k with
        | zero =>
          have e0 : es = [] := List.eq_nil_of_length_eq_zero HES.out
          have e1 := Lib.hid (show (⟨0, 0, es⟩ : Lg).at (⟨0, 0, es⟩ : Lg).last = 0 by rw [e0]; rfl)
          clear e0
          go_wp2_with fail
          go_meet
          exact ⟨by rw [e1.out], rfl⟩
        | succ k =>
          have hel := HES.out
          obtain ⟨bb, o, en, j, hj, hjl, hao, _, hat, hce⟩ := LogAt.entry (g := ⟨0, 0, es⟩) (i := (⟨0, 0, es⟩ : Lg).last) (by rw [hel]; exact hSe3) (by unfold Lg.last; simp only []; omega) (Int.le_refl _)
          have hjk : j = k := by unfold Lg.last at hj; simp only [] at hj; omega
          subst hjk
          subst hao
          have hcell := hce 0 (.int .u64 en.term) rfl
          simp only [Nat.add_zero] at hcell
          have HAT := Lib.hid hat
          have n4 : (0 : Int) < ((j + 1 : Nat) : Int) := by omega
          have q1 : IntKind.i64.wrap (((j + 1 : Nat) : Int) - 1) = (j : Int) := by rw [IntWalk.i64_in _ (by omega)]; omega
          have q2 : IntKind.i64.wrap ((j : Int) + 1 - 1) = (j : Int) := by rw [IntWalk.i64_in _ (by omega)]; omega
          have n5 : (0 : Int) < (j : Int) + 1 := by omega
          have n6 : (j : Int) < (j : Int) + 1 := by omega
          clear hat hj hel hjl hce
          go_wp2_with fail
          go_meet
          exact ⟨by rw [HAT.out], rfl⟩
      case rest =>
      obtain ⟨rfl, rfl⟩ := hcut
      clear hSe3
      generalize hg : (⟨0, 0, es⟩ : Lg) = g at *
      have hg0 : 0 ≤ g.base := by rw [← hg]; exact Int.le_refl _
      have hgl : g.last = (k : Int) := by rw [← hg]; unfold Lg.last; simp only []; have := HES.out; omega
      have HGL := Lib.hid hgl
      clear hgl hg
      have hF : Fol wc b lg g (fol 5 10 lg 0 0 tmo) := ⟨hB3, hL3, rfl, rfl, rfl, rfl, rfl, by simp [fol], by simp [fol], by simp [fol], by simp [fol]⟩
      clear hB3 hL3
      generalize hla : g.at g.last = la
      have HLA := Lib.hid hla
      clear hla
      go_wp2_with fail
      go_loopw [10, 11, 13] (fun v10 v11 v13 wr => ∃ (j : Nat) (r : Rf), v10 = .int .u64 r.tm ∧ v11 = .int .i64 r.vt ∧ v13 = .int .i64 (j : Int) ∧ j ≤ al.length ∧ Fol wr b lg g r ∧ Keeps [] w wr) (fun _ _ v _ => 60 - (intOf v).toNat)
      case atStart => exact ⟨0, _, rfl, rfl, rfl, by omega, hF, hk03⟩
      case round =>
        obtain ⟨j, r, rfl, rfl, rfl, hj, hFr, hkr⟩ := hrel
        clear hF hk03
        by_cases hlt : j < al.length
        rotate_left
        · have n3 : ¬ ((j : Int) < (al.length : Int)) := by omega
          go_wp2_with fail
          go_ret
          exact ⟨rfl, hkr⟩
        have n3 : (j : Int) < (al.length : Int) := by omega
        obtain ⟨bb, o, hta, hcell⟩ := HA.out j hlt
        have hcell := hkr.cellSome hcell (by simp)
        have hbb : bb < wr.heap.size := block_lt_of_cell hcell
        have hxb := al[j].toNat_lt
        generalize al[j].toNat = x at *
        subst hta
        obtain ⟨fr, hfr⟩ : ∃ fr : Nat, fr = x % 4 + 1 := ⟨_, rfl⟩
        obtain ⟨T, hTT⟩ : ∃ T : Nat, T = 9 + x / 4 % 8 := ⟨_, rfl⟩
        obtain ⟨ix, hix⟩ : ∃ ix : Nat, ix = x % 12 := ⟨_, rfl⟩
        obtain ⟨lt, hlt'⟩ : ∃ lt : Nat, lt = x / 32 % 6 := ⟨_, rfl⟩
        have e1 : IntKind.i64.wrap ((x : Int) % 4 + 1) = (fr : Int) := by rw [IntWalk.i64_in _ (by omega)]; omega
        have e2 : IntKind.u64.wrap (9 + (x : Int) / 4 % 8) = (T : Int) := by rw [IntWalk.u64_in _ (by omega)]; omega
        have e3 : (x : Int) % 12 = (ix : Int) := by omega
        have e4 : (x : Int) / 32 % 6 = (lt : Int) := by omega
        have u4 : IntKind.u8.wrap ((x : Int) / 4) = ((x / 4 : Nat) : Int) := by rw [IntWalk.u8_in _ (by omega)]; omega
        have u5 : IntKind.u8.wrap ((x : Int) / 32) = ((x / 32 : Nat) : Int) := by rw [IntWalk.u8_in _ (by omega)]; omega
        have t4 : (((x / 4 : Nat) : Int)).tmod 8 = ((x / 4 % 8 : Nat) : Int) := IntWalk.up_tmod rfl rfl
        have t5 : (((x / 32 : Nat) : Int)).tmod 6 = ((x / 32 % 6 : Nat) : Int) := IntWalk.up_tmod rfl rfl
        have t6 : ((x : Nat) : Int).tmod 12 = ((x % 12 : Nat) : Int) := IntWalk.up_tmod rfl rfl
        have d2 : IntKind.u64.wrap (9 + IntKind.u64.wrap ((IntKind.u8.wrap ((x : Int) / 4)).tmod 8)) = (T : Int) := by
          rw [u4, t4, IntWalk.u64_in ((x / 4 % 8 : Nat) : Int) (by omega), IntWalk.u64_in _ (by omega)]; omega
        have d3 : (IntKind.u64.wrap (x : Int)).tmod 12 = (ix : Int) := by
          rw [IntWalk.u64_in _ (by omega), t6]; omega
        have d4 : (IntKind.u64.wrap (IntKind.u8.wrap ((x : Int) / 32))).tmod 6 = (lt : Int) := by
          rw [u5, IntWalk.u64_in _ (by omega), t5]; omega
        clear u4 u5 t4 t5 t6
        have b1 : 1 ≤ fr := by omega
        have b2 : fr ≤ 4 := by omega
        have b3 : T ≤ 20 := by omega
        have e5 : IntKind.i64.wrap ((j : Int) + 1) = j + 1 := IntWalk.i64_in _ (by omega)
        clear hfr hTT hix hlt' hlt
        go_upto_region 23 with (fail)
        have hSw := rdsV (w := wr.drew) hcell
        refine startU [((4 : Nat), fun w0 : World => w0.cell? ⟨bb, o + j, none⟩ = some (.int .u8 (x : Nat))), ((12 : Nat), fun w0 : World => w0.cell? ⟨bb, o + j, none⟩ = some (.int .u8 (x : Nat))), ((18 : Nat), fun w0 : World => w0.cell? ⟨bb, o + j, none⟩ = some (.int .u8 (x : Nat)))] (by kernel_rfl) ?_
        refine takeU (i := 0) (v := ?_) rfl (by kernel_rfl) (fun _ _ _ h => h) (Or.inl ⟨by rfl, fun w0 hw0 => ?_⟩) (fun p hp _ => hSw p hp) ?_
        rotate_left
        · simp [Reads] at hw0
          go_simp
          try with_reducible rfl
        try go_simp
        refine takeU (i := 1) (v := ?_) rfl (by kernel_rfl) (fun _ _ _ h => h) (Or.inl ⟨by rfl, fun w0 hw0 => ?_⟩) (fun p hp _ => hSw p hp) ?_
        rotate_left
        · simp [Reads] at hw0
          go_simp
          try with_reducible rfl
        try go_simp
        refine takeU (i := 2) (v := ?_) rfl (by kernel_rfl) (fun _ _ _ h => h) (Or.inl ⟨by rfl, fun w0 hw0 => ?_⟩) (fun p hp _ => hSw p hp) ?_
        rotate_left
        · simp [Reads] at hw0
          go_simp
          try with_reducible rfl
        try go_simp
        refine takeU (i := 3) (v := ?_) rfl (by kernel_rfl) (fun _ _ _ h => h) (Or.inl ⟨by rfl, fun w0 hw0 => ?_⟩) (fun p hp _ => hSw p hp) ?_
        rotate_left
        · simp [Reads] at hw0
          go_simp
          try with_reducible rfl
        try go_simp
        refine takeU (i := 4) (v := ?_) rfl (by kernel_rfl) (fun _ _ _ h => h) (Or.inl ⟨by rfl, fun w0 hw0 => ?_⟩) (fun p hp _ => hSw p hp) ?_
        rotate_left
        · simp [Reads] at hw0
          go_simp
          try with_reducible rfl
        try go_simp
        refine takeU (i := 5) (v := ?_) rfl (by kernel_rfl) (fun _ _ _ h => h) (Or.inl ⟨by rfl, fun w0 hw0 => ?_⟩) (fun p hp _ => hSw p hp) ?_
        rotate_left
        · simp [Reads] at hw0
          go_simp
          try with_reducible rfl
        try go_simp
        refine takeU (i := 6) (v := ?_) rfl (by kernel_rfl) (fun _ _ _ h => h) (Or.inl ⟨by rfl, fun w0 hw0 => ?_⟩) (fun p hp _ => hSw p hp) ?_
        rotate_left
        · simp [Reads] at hw0
          go_simp
          try with_reducible rfl
        try go_simp
        refine takeU (i := 7) (v := ?_) rfl (by kernel_rfl) (fun _ _ _ h => h) (Or.inl ⟨by rfl, fun w0 hw0 => ?_⟩) (fun p hp _ => hSw p hp) ?_
        rotate_left
        · simp [Reads] at hw0
          go_simp
          try with_reducible rfl
        try go_simp
        refine takeU (i := 8) (v := ?_) rfl (by kernel_rfl) (fun _ _ _ h => h) (Or.inl ⟨by rfl, fun w0 hw0 => ?_⟩) (fun p hp _ => hSw p hp) ?_
        rotate_left
        · simp [Reads] at hw0
          go_simp
          try with_reducible rfl
        try go_simp
        refine takeU (i := 9) (v := ?_) rfl (by kernel_rfl) (fun _ _ _ h => h) (Or.inl ⟨by rfl, fun w0 hw0 => ?_⟩) (fun p hp _ => hSw p hp) ?_
        rotate_left
        · simp [Reads] at hw0
          go_simp
          try with_reducible rfl
        try go_simp
        refine takeU (i := 10) (v := ?_) rfl (by kernel_rfl) (fun _ _ _ h => h) (Or.inl ⟨by rfl, fun w0 hw0 => ?_⟩) (fun p hp _ => hSw p hp) ?_
        rotate_left
        · simp [Reads] at hw0
          go_simp
          try with_reducible rfl
        try go_simp
        refine takeU (i := 11) (v := ?_) rfl (by kernel_rfl) (fun _ _ _ h => h) (Or.inl ⟨by rfl, fun w0 hw0 => ?_⟩) (fun p hp _ => hSw p hp) ?_
        rotate_left
        · simp [Reads] at hw0
          go_simp
          try with_reducible rfl
        try go_simp
        refine takeU (i := 12) (v := ?_) rfl (by kernel_rfl) (fun _ _ _ h => h) (Or.inl ⟨by rfl, fun w0 hw0 => ?_⟩) (fun p hp _ => hSw p hp) ?_
        rotate_left
        · simp [Reads] at hw0
          go_simp
          try with_reducible rfl
        try go_simp
        refine takeU (i := 13) (v := ?_) rfl (by kernel_rfl) (fun _ _ _ h => h) (Or.inl ⟨by rfl, fun w0 hw0 => ?_⟩) (fun p hp _ => hSw p hp) ?_
        rotate_left
        · simp [Reads] at hw0
          go_simp
          try with_reducible rfl
        try go_simp
        refine takeU (i := 14) (v := ?_) rfl (by kernel_rfl) (fun _ _ _ h => h) (Or.inl ⟨by rfl, fun w0 hw0 => ?_⟩) (fun p hp _ => hSw p hp) ?_
        rotate_left
        · simp [Reads] at hw0
          go_simp
          try with_reducible rfl
        try go_simp
        refine takeU (i := 15) (v := ?_) rfl (by kernel_rfl) (fun _ _ _ h => h) (Or.inl ⟨by rfl, fun w0 hw0 => ?_⟩) (fun p hp _ => hSw p hp) ?_
        rotate_left
        · simp [Reads] at hw0
          go_simp
          try with_reducible rfl
        try go_simp
        refine takeU (i := 16) (v := ?_) rfl (by kernel_rfl) (fun _ _ _ h => h) (Or.inl ⟨by rfl, fun w0 hw0 => ?_⟩) (fun p hp _ => hSw p hp) ?_
        rotate_left
        · simp [Reads] at hw0
          go_simp
          try with_reducible rfl
        try go_simp
        refine takeU (i := 17) (v := ?_) rfl (by kernel_rfl) (fun _ _ _ h => h) (Or.inl ⟨by rfl, fun w0 hw0 => ?_⟩) (fun p hp _ => hSw p hp) ?_
        rotate_left
        · simp [Reads] at hw0
          go_simp
          try with_reducible rfl
        try go_simp
        refine takeU (i := 18) (v := ?_) rfl (by kernel_rfl) (fun _ _ _ h => h) (Or.inl ⟨by rfl, fun w0 hw0 => ?_⟩) (fun p hp _ => hSw p hp) ?_
        rotate_left
        · simp [Reads] at hw0
          go_simp
          try with_reducible rfl
        try go_simp
        refine takeU (i := 19) (v := ?_) rfl (by kernel_rfl) (fun _ _ _ h => h) (Or.inl ⟨by rfl, fun w0 hw0 => ?_⟩) (fun p hp _ => hSw p hp) ?_
        rotate_left
        · simp [Reads] at hw0
          go_simp
          try with_reducible rfl
        try go_simp
        refine takeU (i := 20) (v := ?_) rfl (by kernel_rfl) (fun _ _ _ h => h) (Or.inl ⟨by rfl, fun w0 hw0 => ?_⟩) (fun p hp _ => hSw p hp) ?_
        rotate_left
        · simp [Reads] at hw0
          go_simp
          try with_reducible rfl
        try go_simp
        refine takeU (i := 21) (v := ?_) rfl (by kernel_rfl) (fun _ _ _ h => h) (Or.inl ⟨by rfl, fun w0 hw0 => ?_⟩) (fun p hp _ => hSw p hp) ?_
        rotate_left
        · simp [Reads] at hw0
          go_simp
          try with_reducible rfl
        try go_simp
        refine takeU (i := 22) (v := ?_) rfl (by kernel_rfl) (fun _ _ _ h => h) (Or.inl ⟨by rfl, fun w0 hw0 => ?_⟩) (fun p hp _ => hSw p hp) ?_
        rotate_left
        · simp [Reads] at hw0
          go_simp
          try with_reducible rfl
        try go_simp
        refine oneU (i := 23) rfl (by kernel_rfl) (fun K hK => ?_)
        go_simp
        have hcell' : ∀ v, (wr.drew.alloc v).cell? ⟨bb, o + j, none⟩ = some (.int .u8 (x : Nat)) := fun v => (((Keeps.refl [] wr).drew).alloc v).cellSome hcell (by simp)
        refine hK _ _ (fun p hp _ _ => rdsV (hcell' _) p hp) ?_
        clear hK K
        change wpAnyU _ _ _ _ _ _ _ _ (World.alloc (World.drew _) _)
        obtain ⟨hB, hL, hlg, hF⟩ := hFr
        have hX1 := Blk.fresh_at wr.drew 60 #[.int .i64 (0), .int .i64 (0), .int .i64 (0), .int .u64 (0), .int .u64 (0), .int .u64 (0), .slice none 0 0, .int .u64 0, .int .u64 0, .bool (false), .int .i64 0, .slice none 0 0, .bool false, .int .u64 0, .int .u64 0, .string ⟨#[]⟩, .int .u64 0, .int .i64 0, .slice none 0 0, .slice none 0 0, .int .i64 0, .int .u64 0, .int .i64 0] (n := wr.heap.size) rfl
        have hk1 := ((Keeps.refl [] wr).drew).alloc (.cells #[.int .i64 (0), .int .i64 (0), .int .i64 (0), .int .u64 (0), .int .u64 (0), .int .u64 (0), .slice none 0 0, .int .u64 0, .int .u64 0, .bool (false), .int .i64 0, .slice none 0 0, .bool false, .int .u64 0, .int .u64 0, .string ⟨#[]⟩, .int .u64 0, .int .i64 0, .slice none 0 0, .slice none 0 0, .int .i64 0, .int .u64 0, .int .i64 0] 60)
        have hB1 := hB.keep hk1 (by simp)
        have hL1 := hL.keep0 hk1
        have hkr1 := hkr.trans hk1
        have hbr := hB.lt
        have hlr := hL.lt
        have hxw : w.heap.size ≤ wr.heap.size := hkr.size
        have hwr1 : wr.heap.size < (wr.drew.alloc (.cells #[.int .i64 (0), .int .i64 (0), .int .i64 (0), .int .u64 (0), .int .u64 (0), .int .u64 (0), .slice none 0 0, .int .u64 0, .int .u64 0, .bool (false), .int .i64 0, .slice none 0 0, .bool false, .int .u64 0, .int .u64 0, .string ⟨#[]⟩, .int .u64 0, .int .i64 0, .slice none 0 0, .slice none 0 0, .int .i64 0, .int .u64 0, .int .i64 0] 60)).heap.size := by simp
        have HLN := Lib.hid (fun w' (hk : Keeps [wr.heap.size] wr w') => hL.keepNew hk (by simp))
        clear hL
        generalize World.alloc (World.drew wr) _ = w1 at *
        generalize wr.heap.size = xb at *
        have hbx : b ≠ xb := by omega
        have hlx : lg ≠ xb := by omega
        clear hcell' hB hSw hcell hkr
        refine oneU (i := 24) rfl (by kernel_rfl) (fun K hK => ?_)
        refine step_store_agg rfl rfl 60 (.tmp 15) (.tmp 103) rfl xb 0 rfl [.int .i64 (1), .int .i64 ((fr : Int)), .int .i64 (0), .int .u64 ((T : Int)), .int .u64 ((ix : Int)), .int .u64 ((lt : Int)), .slice none 0 0, .int .u64 0, .int .u64 0, .bool (false), .int .i64 0, .slice none 0 0, .bool false, .int .u64 0, .int .u64 0, .string ⟨#[]⟩, .int .u64 0, .int .i64 0, .slice none 0 0, .slice none 0 0, .int .i64 0, .int .u64 0, .int .i64 0] (by show Value.agg _ = Value.agg _; first | rfl | rw [d2, d3, d4]) 60 _ hX1 Try.sizeM (by simp) rfl _ rfl ?_
        intro w2 hX2 hka
        refine hK _ _ (fun p hp h1 _ => by simp only [List.mem_cons, List.not_mem_nil, or_false] at hp; rcases hp with rfl | rfl | rfl <;> exact waits_absurd h1 (by kernel_rfl)) ?_
        clear hK K
        refine doneU (by kernel_rfl) ?_
        have hB2 := hB1.keep hka (by simpa using hbx)
        have hL2 := HLN.out _ (hk1.of_nil.trans hka)
        clear HLN hk1 hL1
        have hkr2 := hkr1.step hka (fun y hy => by simp at hy; subst hy; exact .inr hxw)
        have hs2 := hka.size
        clear hB1 hX1 hkr1 hka
        have hlX := hX2.lt
        have hgl0 : g.last < 4611686018427387904 := by have := HGL.out; omega
        have HS := Lib.hid (rstep_vote b r g fr T ix lt 0 w2 hB2 (by rw [hlg]; exact hL2) (by rw [hlg]; exact hbl) hF.1 hF.2.1 hF.2.2.1 hF.2.2.2.1 hg0 hgl0 (by omega) (by omega))
        go_wp2_with (first | (refine wpList_load_agg rfl 60 _ rfl xb 0 23 rfl 60 _ _ hX2 Try.underlying60 rfl Try.sizeM (by simp) _ rfl ?_) | (go_at_call 17; fail))
        refine HS.out.mono ?_
        rintro e w3 ⟨mo, mc, rfl, hB3, hS3, hL3, hk3⟩
        clear HS
        simp only [Rf.out]
        have hX3 := hX2.keep hk3 (by simpa using fun e => hbx e.symm)
        have hkr3 := hkr2.step hk3 (fun y hy => by simp at hy; subst hy; exact .inr hbN)
        have hs3 := hk3.size
        have hup := Fol.upTo ⟨hF.1, hF.2.1, hF.2.2.1, hF.2.2.2.1, hF.2.2.2.2.1, hF.2.2.2.2.2.1, hF.2.2.2.2.2.2.1, hF.2.2.2.2.2.2.2⟩ (T : Int) (by omega) (by omega)
        have hvo := Fol.vote (r.gives g fr T ix lt) (fr : Int) (by omega) (by omega) hup.2
        have hasd : r.asked g fr T ix lt = (r.upTo T).vote (r.gives g fr T ix lt) fr := rfl
        rw [hlg] at hL3
        have hgv : r.gives g fr T ix lt = (((T : Int) == (r.upTo T).tm) && (((r.upTo T).vt == -1 || (r.upTo T).vt == (fr : Int)) && (decide (la < (lt : Int)) || ((lt : Int) == la && decide ((k : Int) ≤ (ix : Int)))))) := by
          unfold Rf.gives Rf.grants Lg.newer
          rw [HLA.out, HGL.out]
        have hup1 : ¬ (r.tm < (T : Int)) → (r.upTo T).tm = r.tm ∧ (r.upTo T).vt = r.vt := fun h => by unfold Rf.upTo; rw [if_neg h]; exact ⟨rfl, rfl⟩
        have hup2 : r.tm < (T : Int) → (r.upTo T).tm = (T : Int) ∧ (r.upTo T).vt = -1 := fun h => by unfold Rf.upTo; rw [if_pos h]; exact ⟨rfl, rfl⟩
        have hvt : (r.asked g fr T ix lt).vt = if r.gives g fr T ix lt then (fr : Int) else (r.upTo T).vt := by
          rw [hasd]; unfold Rf.vote; split <;> rfl
        have htm : (r.asked g fr T ix lt).tm = (r.upTo T).tm := by
          rw [hasd]; unfold Rf.vote; split <;> rfl
        have hasl : (r.asked g fr T ix lt).lg = r.lg := by rw [hasd]; exact hvo.1.trans hup.1
        have hvlo := hup.2.2.2.2.2.2.2.1
        rw [← hasd] at hvo
        clear hasd
        have HVO := Lib.hid hvo
        have HUP1 := Lib.hid hup1
        have HUP2 := Lib.hid hup2
        have HGV := Lib.hid hgv
        have HVT := Lib.hid hvt
        have HTM := Lib.hid htm
        have HASL := Lib.hid (hasl.trans hlg)
        clear hvo hup1 hup2 hgv hvt htm hup hasl hX2 hB2 hL2 hkr2 hk3 d2 d3 d4
        generalize r.asked g fr T ix lt = r2 at *
        generalize r.gives g fr T ix lt = ok at *
        generalize (r.upTo T).tm = tm1 at *
        generalize (r.upTo T).vt = vt1 at *
        go_upto_region 25 with (fail)
        have hY4 := Blk.fresh w3 39 #[.slice mo 1 mc, .int .u64 r2.tm, .int .i64 r2.vt, .int .u64 r2.fr, .slice r2.dn.1 r2.dn.2.1 r2.dn.2.2, .slice r2.ins.1 r2.ins.2.1 r2.ins.2.2]
        have hk4 := (Keeps.refl [] w3).alloc (.cells #[.slice mo 1 mc, .int .u64 r2.tm, .int .i64 r2.vt, .int .u64 r2.fr, .slice r2.dn.1 r2.dn.2.1 r2.dn.2.2, .slice r2.ins.1 r2.ins.2.1 r2.ins.2.2] 39)
        have hX4 := hX3.keep hk4 (by simp)
        have hB4 := hB3.keep hk4 (by simp)
        have hS4 := hS3.keep0 hk4
        have hL4 := hL3.keep0 hk4
        have hkr4 := hkr3.trans hk4
        clear hX3 hB3 hS3 hL3 hkr3 hk4
        generalize World.alloc w3 _ = w4 at *
        generalize w3.heap.size = yb at *
        have hcX := hX4.cell
        have hlX := hX4.lt
        go_upto_if 110 with (fail)
        go_cut [10, 11] (fun v10 v11 wx => v10 = .int .u64 tm1 ∧ v11 = .int .i64 vt1 ∧ wx = w4)
        case first =>
          clear HVO HGV HVT HTM HASL
          by_cases hlt : r.tm < (T : Int)
          · obtain ⟨u1, u2⟩ := HUP2.out hlt
            have U1 := Lib.hid u1
            have U2 := Lib.hid u2
            clear u1 u2 HUP1 HUP2
            go_wp2_with fail
            go_meet
            exact ⟨by rw [U1.out], by rw [U2.out], rfl⟩
          · obtain ⟨u1, u2⟩ := HUP1.out hlt
            have U1 := Lib.hid u1
            have U2 := Lib.hid u2
            clear u1 u2 HUP1 HUP2
            go_wp2_with fail
            go_meet
            exact ⟨by rw [U1.out], by rw [U2.out], rfl⟩
        case rest =>
        obtain ⟨rfl, rfl, rfl⟩ := hcut
        clear HUP1 HUP2
        have s6 : IntKind.u64.wrap (k : Int) = (k : Int) := IntWalk.u64_in _ (by omega)
        obtain ⟨nb, hnb⟩ : ∃ nb, nb = (decide (la < (lt : Int)) || ((lt : Int) == la && decide ((k : Int) ≤ (ix : Int)))) := ⟨_, rfl⟩
        have hgv := HGV.out
        rw [← hnb] at hgv
        have HG2 := Lib.hid hgv
        have HNB := Lib.hid hnb
        clear HGV hgv hnb
        go_upto_region 27 with (fail)
        go_cut [17] (fun v wx => v = .bool nb ∧ wx = wc)
        case first =>
          clear HVO HVT HTM HASL HG2
          by_cases h1 : la < (lt : Int)
          · have e := Lib.hid (show nb = true by rw [HNB.out]; simp [h1])
            clear HNB
            go_wp2_with fail
            go_meet
            exact ⟨by rw [e.out], rfl⟩
          by_cases h2 : la = (lt : Int)
          · subst h2
            by_cases h3 : (k : Int) ≤ (ix : Int)
            · have e := Lib.hid (show nb = true by rw [HNB.out]; simp [h3])
              clear HNB
              go_wp2_with fail
              go_meet
              exact ⟨by rw [e.out], rfl⟩
            · have e := Lib.hid (show nb = false by rw [HNB.out]; simp [h1, h3])
              clear HNB
              go_wp2_with fail
              go_meet
              exact ⟨by rw [e.out], rfl⟩
          · have h3 : ((lt : Int) == la) = false := by simp; omega
            have e := Lib.hid (show nb = false by rw [HNB.out, h3]; simp [h1])
            clear HNB
            go_wp2_with fail
            go_meet
            exact ⟨by rw [e.out], rfl⟩
        case rest =>
        obtain ⟨rfl, rfl⟩ := hcut
        clear HNB s6
        go_upto_region 28 with (fail)
        go_cut [18] (fun v wx => v = .bool ok ∧ wx = wc)
        case first =>
          clear HVO HVT HTM HASL
          by_cases h1 : (T : Int) = tm1
          rotate_left
          · have h3 : ((T : Int) == tm1) = false := by simpa using h1
            have e := Lib.hid (show ok = false by rw [HG2.out, h3]; rfl)
            clear HG2
            go_wp2_with fail
            go_meet
            exact ⟨by rw [e.out], rfl⟩
          have h3 : ((T : Int) == tm1) = true := by simpa using h1
          clear h1
          by_cases h2 : vt1 < 0
          · obtain rfl : vt1 = -1 := by omega
            have e := Lib.hid (show ok = nb by rw [HG2.out, h3]; simp)
            clear HG2
            go_wp2_with fail
            all_goals
              go_meet
              exact ⟨by rw [e.out], rfl⟩
          have h4 : (vt1 == -1) = false := by simp; omega
          by_cases h5 : vt1 = (fr : Int)
          · have h6 : (vt1 == (fr : Int)) = true := by simpa using h5
            clear h5
            have e := Lib.hid (show ok = nb by rw [HG2.out, h3, h4, h6]; simp)
            clear HG2
            go_wp2_with fail
            all_goals
              go_meet
              exact ⟨by rw [e.out], rfl⟩
          · have h6 : (vt1 == (fr : Int)) = false := by simpa using h5
            have e := Lib.hid (show ok = false by rw [HG2.out, h3, h4, h6]; simp)
            clear HG2
            go_wp2_with fail
            all_goals
              go_meet
              exact ⟨by rw [e.out], rfl⟩
        case rest =>
        obtain ⟨rfl, rfl⟩ := hcut
        clear HG2
        go_upto_if 147 with (fail)
        go_cut [11] (fun v wx => v = .int .i64 r2.vt ∧ wx = wc)
        case first =>
          clear HVO HTM HASL
          cases ok with
          | true =>
            have e := Lib.hid (show r2.vt = (fr : Int) by rw [HVT.out]; rfl)
            clear HVT
            go_wp2_with fail
            go_meet
            exact ⟨by rw [e.out], rfl⟩
          | false =>
            have e := Lib.hid (show r2.vt = vt1 by rw [HVT.out]; rfl)
            clear HVT
            go_wp2_with fail
            go_meet
            exact ⟨by rw [e.out], rfl⟩
        case rest =>
        obtain ⟨rfl, rfl⟩ := hcut
        obtain ⟨mb, mof, rfl⟩ := hS4.at (by have := hS4.cap; omega)
        have m0 := hS4.cell _ rfl 0 _ rfl
        have m2 := hS4.cell _ rfl 2 _ rfl
        have m9 := hS4.cell _ rfl 9 _ rfl
        simp only [Nat.add_zero] at m0
        have hcY := hY4.cell
        have hlY := hY4.lt
        have htm := HTM.out
        have HFF := Lib.hid (show Fol wc b lg g r2.bare from ⟨hB4, hL4, HASL.out, HVO.out.2⟩)
        clear hB4 hL4 hX4 hY4 hS4 HVO HASL HVT hcX hlX
        go_wp2_with fail
        go_roundw
        case rel => exact ⟨j + 1, r2.bare, by simp [Rf.bare, htm], by simp [Rf.bare], by simp, by omega, HFF.out, hkr4⟩
        case measure => simp [intOf]; omega
end Go.Proofs.Ytbegjhfkfmhidaa
