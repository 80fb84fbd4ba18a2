/- A reader of bytes: entry. Entry. -/
import Derived.Test.YtfgmbjdeimallaaGreatDoorWmZ
import Derived.Test.YtfgmbjdeimallaaGreatDoorRegZ

namespace Go.Proofs.YtfgmbjdeimallaaGreatDoor
open Go.RowKit Go.Lib

theorem Tryz.sizeE : (Tryz.prog.info? 65).map (·.size) = some 5 := by kernel_rfl
theorem load_yieldsW {P : Program} {w : World} {o : Oper} {a : Act} (ty : TypeId) (x : Operand) (ho : o.op = .load ty x) (b off n : Nat) (hx : a.eval x = .pointer (some ⟨b, off, none⟩))
    (t : TypeId) (cs : Array Value) (d : TypeDesc) (hB : Blk w b t cs) (hu : P.underlying ty = some d)
    (hd : (match d with | .struct _ | .array _ _ => true | _ => false) = true) (hsz : (P.info? ty).map (·.size) = some n) (hfit : off + n ≤ cs.size)
    (vs : Array Value) (hvs : ((cs.toList.drop off).take n).toArray = vs) : (execOp a.eval o).run P w = .ok (.value (.agg vs)) w := by
  have hr := run_load_part (P := P) b off n t ty cs d hB hu hd hsz hfit
  rw [hvs] at hr
  unfold execOp
  simp only [ho, hx, Instr.loadAt, Instr.sureAddr, Sem.run_bind, Sem.run_pure, Result.andThen_ok, hr]
/-- a struct is stored into a block that is known whole, as a step of a region that draws -/
theorem step_store_aggW {P : Program} {ops : Array Oper} {o : Oper} {a : Act} {w : World} {K : Act → World → Prop} {Q : Exit → Act → World → Prop} {E : Prop}
    (hgd : o.guard = none) (hdst : o.dst = none) (ty : TypeId) (x y : Operand) (ho : o.op = .store ty x y) (b off : Nat) (hx : a.eval x = .pointer (some ⟨b, off, none⟩))
    (vs : List Value) (hy : a.eval y = .agg vs.toArray) (t : TypeId) (cs : Array Value) (hB : Blk w b t cs) (hsz : (P.info? ty).map (·.size) = some vs.length)
    (hfit : off + vs.length ≤ cs.size) (h1 : vs.all Value.oneCell' = true) (cs' : Array Value) (hcs : (cs.toList.take off ++ vs ++ cs.toList.drop (off + vs.length)).toArray = cs')
    (h : ∀ w', Blk w' b t cs' → Keeps [b] w w' → K a w') : if Region.wanted o (yielded ops a.tmps) = true then Oper.wp P o a w K Q else E := by
  have hw : Region.wanted o (yielded ops a.tmps) = true := by simp [Region.wanted, hgd]
  rw [if_pos hw]
  have hr := run_store_part (P := P) b off t ty cs vs hB hsz hfit h1
  rw [hcs] at hr
  unfold Oper.wp execOp
  simp only [ho, hx, hy, Instr.storeAt, Instr.sureAddr, Sem.run_bind, Sem.run_pure, Result.andThen_ok, hr, Oper.upon]
  rw [hdst]
  exact h _ (hB.row cs') (Keeps.row w b cs')

theorem RdAt.lt {N : Nat} {w : World} {r : Nat} {s : St} (h : RdAt N w r s) : r < w.heap.size := by obtain ⟨ao, c, ev, hB, _⟩ := h; exact hB.lt
theorem ent_mid {N : Nat} {w0 w : World} {r xb vb : Nat} {s : St} {X : Array Value} {t : Nat} {k : Int} (h : RdAt N w r s) (hX : Blk w xb 65 X) (hV : Blk w vb 65 #[.int .u64 t, .int .i64 k, .int .u64 0, .int .u64 0, .string ⟨#[]⟩]) (hr : r ≠ vb) (hx : vb ≠ xb) (hN : N ≤ vb) (hk : Keeps [r] w0 w) (hw : w0.heap.size ≤ vb) (c d : Nat) (p : ByteArray) :
    ∀ W, W = ((w.setCell ⟨vb, 2, none⟩ (.int .u64 c)).setCell ⟨vb, 3, none⟩ (.int .u64 d)).setCell ⟨vb, 4, none⟩ (.string p) → RdAt N W r s ∧ Blk W xb 65 X ∧ Blk W vb 65 #[.int .u64 t, .int .i64 k, .int .u64 c, .int .u64 d, .string p] ∧ Keeps [r] w0 W := by
  rintro W rfl
  exact ⟨((h.set1 hV hr hN (by decide) 2 _).set1 (hV.put 2 _) hr hN (by decide) 3 _).set1 ((hV.put 2 _).put 3 _) hr hN (by decide) 4 _,
   ((hX.other (p := ⟨vb, 2, none⟩) (fun e => hx e.symm) _).other (p := ⟨vb, 3, none⟩) (fun e => hx e.symm) _).other (p := ⟨vb, 4, none⟩) (fun e => hx e.symm) _,
   (((hV.put 2 _).put 3 _).put 4 _).eq (by simp),
   ((hk.set (p := ⟨vb, 2, none⟩) (.inr hw) _).set (p := ⟨vb, 3, none⟩) (.inr hw) _).set (p := ⟨vb, 4, none⟩) (.inr hw) _⟩

theorem ent_end {N : Nat} {w0 w : World} {r xb : Nat} {s : St} {x0 x1 x2 x3 x4 : Value} (h : RdAt N w r s) (hX : Blk w xb 65 #[x0, x1, x2, x3, x4]) (hr : r ≠ xb) (hN : N ≤ xb) (hk : Keeps [r] w0 w) (hx : w0.heap.size ≤ xb) (a b c d e : Value) :
    ∀ W, W = ((((w.setCell ⟨xb, 0, none⟩ a).setCell ⟨xb, 1, none⟩ b).setCell ⟨xb, 2, none⟩ c).setCell ⟨xb, 3, none⟩ d).setCell ⟨xb, 4, none⟩ e → Blk W xb 65 #[a, b, c, d, e] ∧ RdAt N W r s ∧ Keeps [r] w0 W := by
  rintro W rfl
  exact ⟨(((((hX.put 0 a).put 1 b).put 2 c).put 3 d).put 4 e).eq (by simp),
   ((((h.set1 hX hr hN (by decide) 0 a).set1 (hX.put 0 a) hr hN (by decide) 1 b).set1 ((hX.put 0 a).put 1 b) hr hN (by decide) 2 c).set1 (((hX.put 0 a).put 1 b).put 2 c) hr hN (by decide) 3 d).set1 ((((hX.put 0 a).put 1 b).put 2 c).put 3 d) hr hN (by decide) 4 e,
   ((((hk.set (p := ⟨xb, 0, none⟩) (.inr hx) a).set (p := ⟨xb, 1, none⟩) (.inr hx) b).set (p := ⟨xb, 2, none⟩) (.inr hx) c).set (p := ⟨xb, 3, none⟩) (.inr hx) d).set (p := ⟨xb, 4, none⟩) (.inr hx) e⟩

set_option maxRecDepth 100000 in
set_option maxHeartbeats 4000000 in
theorem rd_entry {N : Nat} (r : Nat) (s : St) (w : World) (h : RdAt N w r s) (hN : N ≤ w.heap.size) :
    Calls Tryz.prog 71 #[.pointer (some ⟨r, 0, none⟩)] w fun e w' => e = .returned (.agg s.entry.1.cells) ∧ RdAt N w' r s.entry.2 ∧ Keeps [r] w w' := by
  have hrl := h.lt
  have hX0 := Blk.fresh w 65 #[.int .u64 0, .int .i64 0, .int .u64 0, .int .u64 0, .string ⟨#[]⟩]
  have hk0 := (Keeps.refl [r] w).alloc (.cells #[.int .u64 0, .int .i64 0, .int .u64 0, .int .u64 0, .string ⟨#[]⟩] 65)
  have h0 := h.keep ((Keeps.refl [] w).alloc (.cells #[.int .u64 0, .int .i64 0, .int .u64 0, .int .u64 0, .string ⟨#[]⟩] 65))
  have hxr : w.heap.size ≠ r := by omega
  generalize hsv : s.entry = sv at *
  unfold St.entry at hsv
  dsimp only at hsv
  have P1 := fun w1 (h0 : RdAt N w1 r s) => rd_uint r s w1 h0
  generalize s.uint = su at *
  obtain ⟨tm, s1⟩ := su
  dsimp only at hsv P1
  have P2 := fun w1 (h0 : RdAt N w1 r s1) => rd_small r s1 1 w1 h0
  generalize s1.small 1 = sk at *
  obtain ⟨k, s2⟩ := sk
  dsimp only at hsv P2
  have HSV := Lib.hid hsv
  have HP1 := Lib.hid P1
  have HP2 := Lib.hid P2
  clear hsv P1 P2
  go_enter Tryz.func71, Tryz.ntmps71
  go_upto_region 1 with (fail)
  generalize World.alloc w _ = w1 at *
  generalize hxe : w.heap.size = xb at *
  go_wp2_with fail
  refine (HP1.out w1 h0).mono ?_
  rintro e w2 ⟨rfl, h2, hk2⟩
  have hX2 := hX0.keep hk2 (by simpa using hxr)
  have hk02 := hk0.trans hk2
  clear h0 hX0 hk0 hk2 h HP1
  go_wp2_with fail
  refine (HP2.out w2 h2).mono ?_
  rintro e w3 ⟨rfl, h3, hk3⟩
  have hX3 := hX2.keep hk3 (by simpa using hxr)
  have hk03 := hk02.trans hk3
  clear h2 hX2 hk02 hk3 HP2
  go_upto_region 2 with (fail)
  have hV4 := Blk.fresh w3 65 #[.int .u64 tm, .int .i64 k, .int .u64 0, .int .u64 0, .string ⟨#[]⟩]
  have hk4 := hk03.alloc (.cells #[.int .u64 tm, .int .i64 k, .int .u64 0, .int .u64 0, .string ⟨#[]⟩] 65)
  have h4 := h3.keep ((Keeps.refl [] w3).alloc (.cells #[.int .u64 tm, .int .i64 k, .int .u64 0, .int .u64 0, .string ⟨#[]⟩] 65))
  have hX4 := hX3.alloc (.cells #[.int .u64 tm, .int .i64 k, .int .u64 0, .int .u64 0, .string ⟨#[]⟩] 65)
  have hvr : w3.heap.size ≠ r := by have := h3.lt; omega
  have hvx : w3.heap.size ≠ xb := by have := hX3.lt; omega
  have hvN : N ≤ w3.heap.size := by have := hk03.size; omega
  have hvw : w.heap.size ≤ w3.heap.size := hk03.size
  generalize World.alloc w3 _ = w4 at *
  generalize w3.heap.size = vb at *
  clear h3 hX3 hk03
  obtain ⟨sv1, sv2⟩ := sv
  obtain ⟨e1, hs2, he1⟩ : ∃ e1 : Ent, (if s2.f = 0 ∧ k = 1 then e1 = ⟨tm, 1, s2.uint.1, s2.uint.2.uint.1, ⟨s2.uint.2.uint.2.sql.1.toArray⟩⟩ ∧ sv2 = s2.uint.2.uint.2.sql.2 else e1 = ⟨tm, k, 0, 0, ⟨#[]⟩⟩ ∧ sv2 = s2) ∧ e1 = sv1 := by
    have := HSV.out
    split at this
    · rename_i hh
      simp only [Prod.mk.injEq] at this
      exact ⟨sv1, by rw [if_pos hh]; exact ⟨this.1.symm, this.2.symm⟩, rfl⟩
    · rename_i hh
      simp only [Prod.mk.injEq] at this
      exact ⟨sv1, by rw [if_neg hh]; exact ⟨this.1.symm, this.2.symm⟩, rfl⟩
  subst he1
  have HS := Lib.hid hs2
  clear HSV hs2
  obtain ⟨et, ek, ec, es, ep⟩ := e1
  obtain ⟨q, hq⟩ : ∃ q : Bool, q = decide (s2.f = 0 ∧ k = 1) := ⟨_, rfl⟩
  have HQ := Lib.hid hq
  clear hq
  go_cut [18] (fun v wx => v = .bool q ∧ wx = w4)
  case first =>
    obtain ⟨ao, c, hS, hn, hm, hc⟩ := h4.open
    have hcV := hV4.cell
    have hlV := hV4.lt
    rcases hc with ⟨hf, hB⟩ | ⟨hf, g, p, hB, _⟩
    · have hcc := hB.cell
      have hll := hB.lt
      by_cases hk1 : k = 1
      · have e1 := Lib.hid (show q = true by rw [HQ.out]; simp [hf, hk1])
        subst hk1
        clear hf hm HS
        go_wp2_with fail
        go_meet
        exact ⟨by rw [e1.out], rfl⟩
      · have e1 := Lib.hid (show q = false by rw [HQ.out]; simp [hk1])
        have n1 : ((k : Int) == 1) = false := by simp; omega
        clear hf hm HS
        go_wp2_with fail
        go_meet
        exact ⟨by rw [e1.out], rfl⟩
    · have hcc := hB.cell
      have hll := hB.lt
      have e1 := Lib.hid (show q = false by rw [HQ.out]; simp [hf])
      clear hf hm HS
      go_wp2_with fail
      go_meet
      exact ⟨by rw [e1.out], rfl⟩
  case rest =>
  obtain ⟨rfl, rfl⟩ := hcut
  go_upto_if 18 with (fail)
  go_cut [] (fun wx => RdAt N wx r sv2 ∧ Blk wx xb 65 #[.int .u64 0, .int .i64 0, .int .u64 0, .int .u64 0, .string ⟨#[]⟩] ∧ Blk wx vb 65 #[.int .u64 et, .int .i64 ek, .int .u64 ec, .int .u64 es, .string ep] ∧ Keeps [r] w wx)
  case first =>
    have hq := HQ.out
    have hh := HS.out
    clear HS HQ
    cases q with
    | false =>
      rw [if_neg (by simpa using hq)] at hh
      simp only [Ent.mk.injEq] at hh
      obtain ⟨⟨rfl, rfl, rfl, rfl, rfl⟩, rfl⟩ := hh
      clear hq
      go_wp2_with fail
      go_meet
      exact ⟨h4, hX4, hV4, hk4⟩
    | true =>
      have hq2 := of_decide_eq_true hq.symm
      rw [if_pos hq2] at hh
      simp only [Ent.mk.injEq] at hh
      obtain ⟨⟨rfl, rfl, rfl, rfl, rfl⟩, rfl⟩ := hh
      obtain ⟨hf, hk1⟩ := hq2
      subst hk1
      clear hq hf
      have P1 := fun w1 (h0 : RdAt N w1 r s2) => rd_uint r s2 w1 h0
      generalize s2.uint = su at *
      obtain ⟨c1, s5⟩ := su
      dsimp only at P1
      have P2 := fun w1 (h0 : RdAt N w1 r s5) => rd_uint r s5 w1 h0
      try dsimp only
      generalize s5.uint = sk at *
      obtain ⟨q1, s6⟩ := sk
      dsimp only at P2
      have P3 := fun w1 (h0 : RdAt N w1 r s6) => rd_sql r s6 w1 h0
      try dsimp only
      generalize s6.sql = sq at *
      obtain ⟨p1, s7⟩ := sq
      dsimp only at P3
      have HP1 := Lib.hid P1
      have HP2 := Lib.hid P2
      have HP3 := Lib.hid P3
      clear P1 P2 P3
      go_wp2_with fail
      refine (HP1.out _ h4).mono ?_
      rintro e w5 ⟨rfl, h5, hk5⟩
      have hX5 := hX4.keep hk5 (by simpa using hxr)
      have hV5 := hV4.keep hk5 (by simpa using hvr)
      have hk05 := hk4.trans hk5
      clear h4 hX4 hV4 hk4 hk5 HP1
      go_wp2_with fail
      refine (HP2.out w5 h5).mono ?_
      rintro e w6 ⟨rfl, h6, hk6⟩
      have hX6 := hX5.keep hk6 (by simpa using hxr)
      have hV6 := hV5.keep hk6 (by simpa using hvr)
      have hk06 := hk05.trans hk6
      clear h5 hX5 hV5 hk05 hk6 HP2
      go_wp2_with fail
      refine (HP3.out w6 h6).mono ?_
      rintro e w7 ⟨rfl, h7, hk7⟩
      have hX7 := hX6.keep hk7 (by simpa using hxr)
      have hV7 := hV6.keep hk7 (by simpa using hvr)
      have hk07 := hk06.trans hk7
      clear h6 hX6 hV6 hk06 hk7 HP3
      have hcV := hV7.cell
      have hlV := hV7.lt
      have hfV := hV7.free
      have E := ent_mid h7 hX7 hV7 (fun e => hvr e.symm) hvx hvN hk07 hvw c1 q1 ⟨p1.toArray⟩
      have HE := Lib.hid E
      clear E
      go_wp2_with fail
      go_meet
      exact HE.out _ rfl
  case rest =>
    obtain ⟨h5, hX5, hV5, hk5⟩ := hcut
    clear h4 hX4 hV4 hk4 HS HQ
    have hcX := hX5.cell
    have hlX := hX5.lt
    have hfX := hX5.free
    have hcV := hV5.cell
    have hlV := hV5.lt
    have E := ent_end h5 hX5 (fun e => hxr e.symm) (by omega) hk5 (by omega) (.int .u64 et) (.int .i64 ek) (.int .u64 ec) (.int .u64 es) (.string ep)
    have HE := Lib.hid E
    clear E
    go_wp2_with fail
    obtain ⟨E1, E2, E3⟩ := HE.out _ rfl
    exact bodyPost_ret (results_c rfl rfl E1 Tryz.underlying65 rfl Tryz.sizeE) rfl ⟨rfl, E2, E3⟩

set_option maxRecDepth 100000 in
set_option maxHeartbeats 4000000 in
theorem entry_any0 (ao : Option Addr) (c : Nat) (l : List UInt8) (w : World) (h : Rb w ao c l) (hll : l.length ≤ 4611686018427387904) (y : Ent) (n f : Nat) (hp : entP l = (y, n, f)) :
    Calls Tryz.prog 56 #[.slice ao l.length c] w fun e w' => ∃ ev, e = .returned (.tuple #[.agg y.cells, .int .i64 n, ev]) ∧ ErrF w' ev f ∧ Keeps [] w w' := by
  have hal : ∀ ad, ao = some ad → bys l ≠ [] → ad.block < w.heap.size := fun ad e hx => Sl.lt h e hx
  have hX := Blk.fresh w 65 #[.int .u64 0, .int .i64 0, .int .u64 0, .int .u64 0, .string ⟨#[]⟩]
  have hkx := (Keeps.refl [] w).alloc (.cells #[.int .u64 0, .int .i64 0, .int .u64 0, .int .u64 0, .string ⟨#[]⟩] 65)
  have hxl : (w.alloc (.cells #[.int .u64 0, .int .i64 0, .int .u64 0, .int .u64 0, .string ⟨#[]⟩] 65)).heap.size = w.heap.size + 1 := by simp
  have hS1 := h.keep0 hkx
  unfold entP at hp
  dsimp only at hp
  go_enter Tryz.func56, Tryz.ntmps56
  go_upto_region 1 with (fail)
  generalize World.alloc w _ = w1 at *
  generalize hxe : w.heap.size = xb at *
  have hR := Blk.fresh w1 151 #[.slice ao l.length c, .int .i64 0, .nilIface]
  have hkr := hkx.alloc (.cells #[.slice ao l.length c, .int .i64 0, .nilIface] 151)
  have hX1 := hX.alloc (.cells #[.slice ao l.length c, .int .i64 0, .nilIface] 151)
  have h0 : RdAt w.heap.size (w1.alloc (.cells #[.slice ao l.length c, .int .i64 0, .nilIface] 151)) w1.heap.size ⟨l, 0, 0⟩ :=
    ⟨ao, c, .nilIface, hR, hS1.keep0 ((Keeps.refl [] w1).alloc _), .inl ⟨rfl, rfl⟩, fun ad e hx => ⟨by have := hal ad e hx; omega, by have := hal ad e hx; omega⟩, by simpa using hll⟩
  have P := rd_entry w1.heap.size ⟨l, 0, 0⟩ _ h0 (by simp; omega)
  generalize (⟨l, 0, 0⟩ : St).entry = x at *
  obtain ⟨x, t⟩ := x
  dsimp only at hp P
  have HRP := Lib.hid hp
  clear hp
  have hrx : w1.heap.size ≠ xb := by omega
  have hrw : w.heap.size ≤ w1.heap.size := by omega
  have hxL := Lib.hid hxl
  clear hxl
  go_upto_region 2 with (fail)
  generalize World.alloc w1 _ = w2 at *
  generalize w1.heap.size = r at *
  go_wp2_with fail
  refine P.mono ?_
  rintro e w3 ⟨rfl, h3, hk3⟩
  have hX3 := hX1.keep hk3 (by simpa using fun e => hrx e.symm)
  have hk03 := hkr.step hk3 (by intro y hy; simp at hy; right; omega)
  clear P hR hkr hX1 h0 hX hkx hk3 hS1
  obtain ⟨et, ek, ec, es, ep⟩ := x
  go_upto_region 3 with (fail)
  have hV4 := Blk.fresh w3 65 (Ent.cells ⟨et, ek, ec, es, ep⟩)
  have hk4 := hk03.alloc (.cells (Ent.cells ⟨et, ek, ec, es, ep⟩) 65)
  have h4 := h3.keep ((Keeps.refl [] w3).alloc (.cells (Ent.cells ⟨et, ek, ec, es, ep⟩) 65))
  have hX4 := hX3.alloc (.cells (Ent.cells ⟨et, ek, ec, es, ep⟩) 65)
  have hvx : w3.heap.size ≠ xb := by have := hX3.lt; omega
  clear h3 hX3 hk03
  dsimp only [Ent.cells] at hV4 hk4 h4 hX4
  generalize World.alloc w3 _ = w4 at *
  generalize w3.heap.size = vb at *
  obtain ⟨ao2, c2, hS2, hn2, hm2, hc2⟩ := h4.open
  rcases hc2 with ⟨hf, hB⟩ | ⟨hf, g, p, hB, hG⟩
  · have hh := HRP.out
    rw [if_pos hf] at hh
    have HH := Lib.hid hh
    clear hh hf HRP hm2
    have hcc := hB.cell
    have hll := hB.lt
    go_upto_region 5 with (fail)
    clear hcc hll
    have hSw : ∀ p ∈ [((0 : Nat), fun w0 : World => Blk w0 vb 65 #[.int .u64 et, .int .i64 ek, .int .u64 ec, .int .u64 es, .string ep]), ((4 : Nat), fun w0 : World => w0.cell? ⟨r, 1, none⟩ = some (.int .i64 t.n))], p.2 w4.drew := by
      intro p hp
      simp at hp
      rcases hp with rfl | rfl
      · exact hV4.drew
      · have := hB.drew.cell 1
        simpa using this
    refine startU [((0 : Nat), fun w0 : World => Blk w0 vb 65 #[.int .u64 et, .int .i64 ek, .int .u64 ec, .int .u64 es, .string ep]), ((4 : Nat), fun w0 : World => w0.cell? ⟨r, 1, none⟩ = some (.int .i64 t.n))] (by kernel_rfl) ?_
    refine takeU (i := 0) (v := .agg #[.int .u64 et, .int .i64 ek, .int .u64 ec, .int .u64 es, .string ep]) rfl (by kernel_rfl) (fun _ _ _ h => h) (Or.inl ⟨by rfl, fun w0 hw0 => ?_⟩) (fun p hp _ => hSw p hp) ?_
    · simp [Reads] at hw0
      exact load_yieldsW 65 (.tmp 6) rfl vb 0 5 rfl 65 _ _ hw0 Tryz.underlying65 rfl Tryz.sizeE (by simp) _ rfl
    refine takeU (i := 1) (v := ?_) rfl (by kernel_rfl) (fun _ _ _ h => h) (Or.inl ⟨by rfl, fun w0 hw0 => ?_⟩) (fun p hp _ => hSw p hp) ?_
    rotate_left
    · simp [Reads] at hw0
      go_simp
      try with_reducible rfl
    try go_simp
    refine takeU (i := 2) (v := ?_) rfl (by kernel_rfl) (fun _ _ _ h => h) (Or.inl ⟨by rfl, fun w0 hw0 => ?_⟩) (fun p hp _ => hSw p hp) ?_
    rotate_left
    · simp [Reads] at hw0
      go_simp
      try with_reducible rfl
    try go_simp
    refine takeU (i := 3) (v := ?_) rfl (by kernel_rfl) (fun _ _ _ h => h) (Or.inl ⟨by rfl, fun w0 hw0 => ?_⟩) (fun p hp _ => hSw p hp) ?_
    rotate_left
    · simp [Reads] at hw0
      go_simp
      try with_reducible rfl
    try go_simp
    refine takeU (i := 4) (v := ?_) rfl (by kernel_rfl) (fun _ _ _ h => h) (Or.inl ⟨by rfl, fun w0 hw0 => ?_⟩) (fun p hp _ => hSw p hp) ?_
    rotate_left
    · simp [Reads] at hw0
      go_simp
      try with_reducible rfl
    try go_simp
    refine oneU (i := 5) rfl (by kernel_rfl) (fun K hK => ?_)
    refine step_store_aggW rfl rfl 65 (.tmp 2) (.tmp 22) rfl xb 0 rfl [.int .u64 et, .int .i64 ek, .int .u64 ec, .int .u64 es, .string ep] rfl 65 _ hX4.drew Tryz.sizeE (by simp) rfl _ rfl ?_
    intro w5 hX5 hk5
    refine hK _ _ (fun p hp h1 h2 => by
      simp only [List.mem_cons, List.not_mem_nil, or_false] at hp
      rcases hp with rfl | rfl
      · exact waits_absurd h1 (by kernel_rfl)
      · exact hk5.cellSome h2 (by simpa using hrx)) ?_
    clear hK K
    have hS5 : ∀ p ∈ [((0 : Nat), fun w0 : World => Blk w0 vb 65 #[.int .u64 et, .int .i64 ek, .int .u64 ec, .int .u64 es, .string ep]), ((4 : Nat), fun w0 : World => w0.cell? ⟨r, 1, none⟩ = some (.int .i64 t.n))], p.2 w5 := by
      intro p hp
      have h0 := hSw p hp
      simp at hp
      rcases hp with rfl | rfl
      · exact Blk.keep h0 hk5 (by simpa using hvx)
      · exact hk5.cellSome h0 (by simpa using hrx)
    refine takeU (i := 6) (v := ?_) rfl (by kernel_rfl) (fun _ _ _ h => h) (Or.inl ⟨by rfl, fun w0 hw0 => ?_⟩) (fun p hp _ => hS5 p hp) ?_
    rotate_left
    · simp [Reads] at hw0
      go_simp
      try with_reducible rfl
    try go_simp
    refine takeU (i := 7) (v := ?_) rfl (by kernel_rfl) (fun _ _ _ h => h) (Or.inl ⟨by rfl, fun w0 hw0 => ?_⟩) (fun p hp _ => hS5 p hp) ?_
    rotate_left
    · simp [Reads] at hw0
      go_simp
      try with_reducible rfl
    try go_simp
    refine doneU (by kernel_rfl) ?_
    go_wp2_with fail
    have hh := HH.out
    simp only [Prod.mk.injEq] at hh
    obtain ⟨rfl, rfl, rfl⟩ := hh
    exact bodyPost_ret (results_ctt rfl rfl hX5 Tryz.underlying65 rfl Tryz.sizeE) rfl ⟨.nilIface, rfl, .inl ⟨rfl, rfl⟩, hk4.drew.step hk5 (fun y hy => by simp at hy; subst hy; right; omega)⟩
  · have hh := HRP.out
    rw [if_neg hf] at hh
    have HH := Lib.hid hh
    have HF := Lib.hid hf
    clear hh hf HRP hm2
    have hcc := hB.cell
    have hll := hB.lt
    go_upto_region 4 with (fail)
    clear hcc hll
    have hSw : ∀ q ∈ [((4 : Nat), fun w0 : World => w0.cell? ⟨r, 2, none⟩ = some (.iface 95 (.pointer (some ⟨g, 0, none⟩))))], q.2 w4.drew := by
      intro q hq
      simp at hq
      subst hq
      have := hB.drew.cell 2
      simpa using this
    refine startU [((4 : Nat), fun w0 : World => w0.cell? ⟨r, 2, none⟩ = some (.iface 95 (.pointer (some ⟨g, 0, none⟩))))] (by kernel_rfl) ?_
    refine takeU (i := 0) (v := ?_) rfl (by kernel_rfl) (fun _ _ _ h => h) (Or.inl ⟨by rfl, fun w0 hw0 => ?_⟩) (fun p hp _ => hSw p hp) ?_
    rotate_left
    · simp [Reads] at hw0
      go_simp
      try with_reducible rfl
    try go_simp
    refine takeU (i := 1) (v := ?_) rfl (by kernel_rfl) (fun _ _ _ h => h) (Or.inl ⟨by rfl, fun w0 hw0 => ?_⟩) (fun p hp _ => hSw p hp) ?_
    rotate_left
    · simp [Reads] at hw0
      go_simp
      try with_reducible rfl
    try go_simp
    refine takeU (i := 2) (v := ?_) rfl (by kernel_rfl) (fun _ _ _ h => h) (Or.inl ⟨by rfl, fun w0 hw0 => ?_⟩) (fun p hp _ => hSw p hp) ?_
    rotate_left
    · simp [Reads] at hw0
      go_simp
      try with_reducible rfl
    try go_simp
    refine takeU (i := 3) (v := ?_) rfl (by kernel_rfl) (fun _ _ _ h => h) (Or.inl ⟨by rfl, fun w0 hw0 => ?_⟩) (fun p hp _ => hSw p hp) ?_
    rotate_left
    · simp [Reads] at hw0
      go_simp
      try with_reducible rfl
    try go_simp
    refine takeU (i := 4) (v := ?_) rfl (by kernel_rfl) (fun _ _ _ h => h) (Or.inl ⟨by rfl, fun w0 hw0 => ?_⟩) (fun p hp _ => hSw p hp) ?_
    rotate_left
    · simp [Reads] at hw0
      go_simp
      try with_reducible rfl
    try go_simp
    refine oneU (i := 5) rfl (by kernel_rfl) (fun K hK => ?_)
    refine step_store_aggW rfl rfl 65 (.tmp 2) (.tmp 17) rfl xb 0 rfl [.int .u64 0, .int .i64 0, .int .u64 0, .int .u64 0, .string ⟨#[]⟩] rfl 65 _ hX4.drew Tryz.sizeE (by simp) rfl _ rfl ?_
    intro w5 hX5 hk5
    refine hK _ _ (fun p hp h1 h2 => by
      simp only [List.mem_cons, List.not_mem_nil, or_false] at hp
      subst hp
      exact hk5.cellSome h2 (by simpa using hrx)) ?_
    clear hK K
    have hS5 : ∀ q ∈ [((4 : Nat), fun w0 : World => w0.cell? ⟨r, 2, none⟩ = some (.iface 95 (.pointer (some ⟨g, 0, none⟩))))], q.2 w5 := by
      intro q hq
      have h0 := hSw q hq
      simp at hq
      subst hq
      exact hk5.cellSome h0 (by simpa using hrx)
    refine takeU (i := 6) (v := ?_) rfl (by kernel_rfl) (fun _ _ _ h => h) (Or.inl ⟨by rfl, fun w0 hw0 => ?_⟩) (fun p hp _ => hS5 p hp) ?_
    rotate_left
    · simp [Reads] at hw0
      go_simp
      try with_reducible rfl
    try go_simp
    refine takeU (i := 7) (v := ?_) rfl (by kernel_rfl) (fun _ _ _ h => h) (Or.inl ⟨by rfl, fun w0 hw0 => ?_⟩) (fun p hp _ => hS5 p hp) ?_
    rotate_left
    · simp [Reads] at hw0
      go_simp
      try with_reducible rfl
    try go_simp
    refine doneU (by kernel_rfl) ?_
    go_wp2_with fail
    have hh := HH.out
    simp only [Prod.mk.injEq] at hh
    obtain ⟨rfl, rfl, rfl⟩ := hh
    exact bodyPost_ret (results_ctt rfl rfl hX5 Tryz.underlying65 rfl Tryz.sizeE) rfl ⟨_, rfl, .inr ⟨HF.out, g, p, rfl, hG.drew.keep hk5 (by
      intro e
      simp at e
      subst e
      have h1 := hG
      have h2 := hX4
      unfold Blk at h1 h2
      rw [h1] at h2
      simp at h2)⟩, hk4.drew.step hk5 (fun y hy => by simp at hy; subst hy; right; omega)⟩
theorem entry_any (ao : Option Addr) (c : Nat) (l : List UInt8) (w : World) (h : Rb w ao c l) (_ : ∀ ad, ao = some ad → ad.block < w.heap.size) (hll : l.length ≤ 4611686018427387904) (y : Ent) (n f : Nat) (hp : entP l = (y, n, f)) :
    Calls Tryz.prog 56 #[.slice ao l.length c] w fun e w' => ∃ ev, e = .returned (.tuple #[.agg y.cells, .int .i64 n, ev]) ∧ ErrF w' ev f ∧ Keeps [] w w' := entry_any0 ao c l w h hll y n f hp
end Go.Proofs.YtfgmbjdeimallaaGreatDoor
