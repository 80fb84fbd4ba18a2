/- The document's client, one contract each: Recv, a refusal. -/
import Derived.Test.YtpkjcdmeabjifaaDoorRef2

namespace Go.Proofs.YtpkjcdmeabjifaaDoor
open Go.RowKit

set_option maxRecDepth 100000 in
set_option maxHeartbeats 2000000 in
theorem rrecv_hint (b : Nat) (num n tgt nxt : Int) (wt : Bool) (seq : Int) (sql : ByteArray) (tk rs rc : Int) (cols rows : Option Addr × Nat × Nat) (cnt idx : Int) (sm : Bool) (mk mf mt mterm mix mlt : Int) (ment : Option Addr × Nat × Nat) (mcm mrd : Int) (mok : Bool) (moff : Int) (mdat : Option Addr × Nat × Nat) (mdone : Bool) (mcl msq : Int) (msql : ByteArray) (mrs mrc : Int) (mcols mrows : Option Addr × Nat × Nat) (mcnt mridx mh : Int) (w : World) (h0 : 0 ≤ num) (h1 : num < 8) (hwt : wt = true) (hk : mk = 8) (ht : mt = 100 + num) (hq : msq = seq) (ho : mok = false)
    (hh : 0 ≤ mh) (hh' : mh < n) (hne : (mh != tgt) = true) (hB : Blk w b 64 #[.int .i64 (num), .int .i64 (n), .int .i64 (tgt), .int .u64 (nxt), .bool (wt), .int .u64 (seq), .string (sql), .int .i64 (tk), .int .u64 (rs), .int .i64 (rc), .slice (cols).1 (cols).2.1 (cols).2.2, .slice (rows).1 (rows).2.1 (rows).2.2, .int .i64 (cnt), .int .u64 (idx), .bool (sm)]) :
    Calls Tryd.prog 18 #[.pointer (some ⟨b, 0, none⟩), .agg #[.int .i64 mk, .int .i64 mf, .int .i64 mt, .int .u64 mterm, .int .u64 mix, .int .u64 mlt, .slice ment.1 ment.2.1 ment.2.2, .int .u64 mcm, .int .u64 mrd, .bool mok, .int .i64 moff, .slice mdat.1 mdat.2.1 mdat.2.2, .bool mdone, .int .u64 mcl, .int .u64 msq, .string msql, .int .u64 mrs, .int .i64 mrc, .slice mcols.1 mcols.2.1 mcols.2.2, .slice mrows.1 mrows.2.1 mrows.2.2, .int .i64 mcnt, .int .u64 mridx, .int .i64 mh]] w fun e w' => e = .returned (.tuple #[.agg #[.int .i64 7, .int .i64 (100 + num), .int .i64 (mh), .int .u64 0, .int .u64 0, .int .u64 0, .slice none 0 0, .int .u64 0, .int .u64 0, .bool false, .int .i64 0, .slice none 0 0, .bool false, .int .u64 (num + 1), .int .u64 (seq), .string (sql), .int .u64 0, .int .i64 0, .slice none 0 0, .slice none 0 0, .int .i64 0, .int .u64 0, .int .i64 0], .bool true, .bool false]) ∧
      Blk w' b 64 #[.int .i64 (num), .int .i64 (n), .int .i64 (mh), .int .u64 (nxt), .bool (true), .int .u64 (seq), .string (sql), .int .i64 (0), .int .u64 (rs), .int .i64 (rc), .slice (cols).1 (cols).2.1 (cols).2.2, .slice (rows).1 (rows).2.1 (rows).2.2, .int .i64 (cnt), .int .u64 (idx), .bool (sm)] ∧ Keeps [b] w w' := by
  subst hwt hk ht hq ho
  have hc := hB.cell
  have hf := hB.free
  have hl := hB.lt
  have k1 : IntKind.i64.wrap (100 + num) = 100 + num := IntWalk.i64_in _ (by omega)
  go_enter Tryd.func18, Tryd.ntmps18
  go_wp2
  go_quiet (fail)
  go_wp2
  go_quiet (fail)
  clear k1
  go_wp2_with fail
  refine (rrequest_any b num n mh nxt true msq sql 0 rs rc cols rows cnt idx sm _ h0 h1 (((((hB.alloc _).alloc _).drewN _).put 2 _).put 7 _)).mono ?_
  rintro e w1 ⟨rfl, hk1⟩
  have hne1 : w.heap.size + 1 ≠ b := by omega
  have hB1 := (((((hB.alloc _).alloc _).drewN _).put 2 _).put 7 _).keep hk1 (by simp)
  have hM := ((((Blk.fresh_at _ _ _ (n := w.heap.size + 1) (by simp)).drewN _).other hne1 _).other hne1 _).keep hk1 (by simp)
  have hK : Keeps [b] w w1 := ((((((Keeps.refl [b] w).alloc _).alloc _).drewN _).set (p := ⟨b, 2, none⟩) (.inl (by simp)) _).set (p := ⟨b, 7, none⟩) (.inl (by simp)) _).trans hk1.of_nil
  clear hk1 hc hf
  go_wp2_with (refine wpList_store_agg rfl rfl _ _ _ rfl (w.heap.size + 1) 0 rfl _ rfl 40 _ hM Tryd.sizeM (by simp) rfl _ rfl ?_; intro w2 hM2 hK2)
  exact bodyPost_ret (results_ctt rfl rfl hM2 Tryd.underlying40 rfl Tryd.sizeM) rfl ⟨rfl, hB1.keep hK2 (by simp; omega), hK.step hK2 (by simp)⟩

set_option maxRecDepth 100000 in
set_option maxHeartbeats 2000000 in
theorem rrecv_next0 (b : Nat) (num n tgt nxt : Int) (wt : Bool) (seq : Int) (sql : ByteArray) (tk rs rc : Int) (cols rows : Option Addr × Nat × Nat) (cnt idx : Int) (sm : Bool) (mk mf mt mterm mix mlt : Int) (ment : Option Addr × Nat × Nat) (mcm mrd : Int) (mok : Bool) (moff : Int) (mdat : Option Addr × Nat × Nat) (mdone : Bool) (mcl msq : Int) (msql : ByteArray) (mrs mrc : Int) (mcols mrows : Option Addr × Nat × Nat) (mcnt mridx mh : Int) (w : World) (h0 : 0 ≤ num) (h1 : num < 8) (hn : 0 < n) (hn' : n < 100) (hg : 0 ≤ tgt) (hg' : tgt < 100) (hwt : wt = true) (hk : mk = 8) (ht : mt = 100 + num) (hq : msq = seq) (ho : mok = false)
    (hh : mh < 0) (hB : Blk w b 64 #[.int .i64 (num), .int .i64 (n), .int .i64 (tgt), .int .u64 (nxt), .bool (wt), .int .u64 (seq), .string (sql), .int .i64 (tk), .int .u64 (rs), .int .i64 (rc), .slice (cols).1 (cols).2.1 (cols).2.2, .slice (rows).1 (rows).2.1 (rows).2.2, .int .i64 (cnt), .int .u64 (idx), .bool (sm)]) :
    Calls Tryd.prog 18 #[.pointer (some ⟨b, 0, none⟩), .agg #[.int .i64 mk, .int .i64 mf, .int .i64 mt, .int .u64 mterm, .int .u64 mix, .int .u64 mlt, .slice ment.1 ment.2.1 ment.2.2, .int .u64 mcm, .int .u64 mrd, .bool mok, .int .i64 moff, .slice mdat.1 mdat.2.1 mdat.2.2, .bool mdone, .int .u64 mcl, .int .u64 msq, .string msql, .int .u64 mrs, .int .i64 mrc, .slice mcols.1 mcols.2.1 mcols.2.2, .slice mrows.1 mrows.2.1 mrows.2.2, .int .i64 mcnt, .int .u64 mridx, .int .i64 mh]] w fun e w' => e = .returned (.tuple #[.agg #[.int .i64 7, .int .i64 (100 + num), .int .i64 ((tgt + 1) % n), .int .u64 0, .int .u64 0, .int .u64 0, .slice none 0 0, .int .u64 0, .int .u64 0, .bool false, .int .i64 0, .slice none 0 0, .bool false, .int .u64 (num + 1), .int .u64 (seq), .string (sql), .int .u64 0, .int .i64 0, .slice none 0 0, .slice none 0 0, .int .i64 0, .int .u64 0, .int .i64 0], .bool true, .bool false]) ∧
      Blk w' b 64 #[.int .i64 (num), .int .i64 (n), .int .i64 ((tgt + 1) % n), .int .u64 (nxt), .bool (true), .int .u64 (seq), .string (sql), .int .i64 (0), .int .u64 (rs), .int .i64 (rc), .slice (cols).1 (cols).2.1 (cols).2.2, .slice (rows).1 (rows).2.1 (rows).2.2, .int .i64 (cnt), .int .u64 (idx), .bool (sm)] ∧ Keeps [b] w w' := by
  subst hwt hk ht hq ho
  have hd : decide ((0 : Int) ≤ mh) = false := by simpa using hh
  clear hh
  have hc := hB.cell
  have hf := hB.free
  have hl := hB.lt
  have k1 : IntKind.i64.wrap (100 + num) = 100 + num := IntWalk.i64_in _ (by omega)
  go_enter Tryd.func18, Tryd.ntmps18
  go_wp2
  go_quiet (fail)
  go_wp2
  go_quiet (fail)
  clear k1
  go_wp2
  have q2 : IntKind.i64.wrap (tgt + 1) = tgt + 1 := IntWalk.i64_in _ (by omega)
  have q3 : (tgt + 1).tmod n = (tgt + 1) % n := Int.tmod_eq_emod_of_nonneg (by omega)
  have q4 : ¬ n = 0 := by omega
  refine wp_region_still_tail 13 (by kernel_rfl) (by kernel_rfl) ?_
  change wpStill _ _ (World.drew _) _ _ _
  simp only [List.take_succ_cons, List.take_zero, List.drop_succ_cons, List.drop_zero]
  repeat still_step
  refine wpStill_nil ?_
  change wpList _ _ _ _ _ (World.drew _)
  clear q2 q3 q4
  go_wp2_with fail
  refine (rrequest_any b num n ((tgt + 1) % n) nxt true msq sql 0 rs rc cols rows cnt idx sm _ h0 h1 ((((((hB.alloc _).alloc _).drewN _).drew).put 2 _).put 7 _)).mono ?_
  rintro e w1 ⟨rfl, hk1⟩
  have hne1 : w.heap.size + 1 ≠ b := by omega
  have hB1 := ((((((hB.alloc _).alloc _).drewN _).drew).put 2 _).put 7 _).keep hk1 (by simp)
  have hM := (((((Blk.fresh_at _ _ _ (n := w.heap.size + 1) (by simp)).drewN _).drew).other hne1 _).other hne1 _).keep hk1 (by simp)
  have hK : Keeps [b] w w1 := (((((((Keeps.refl [b] w).alloc _).alloc _).drewN _).drew).set (p := ⟨b, 2, none⟩) (.inl (by simp)) _).set (p := ⟨b, 7, none⟩) (.inl (by simp)) _).trans hk1.of_nil
  clear hk1 hc hf
  go_wp2_with (refine wpList_store_agg rfl rfl _ _ _ rfl (w.heap.size + 1) 0 rfl _ rfl 40 _ hM Tryd.sizeM (by simp) rfl _ rfl ?_; intro w2 hM2 hK2)
  exact bodyPost_ret (results_ctt rfl rfl hM2 Tryd.underlying40 rfl Tryd.sizeM) rfl ⟨rfl, hB1.keep hK2 (by simp; omega), hK.step hK2 (by simp)⟩

set_option maxRecDepth 100000 in
set_option maxHeartbeats 2000000 in
theorem rrecv_next1 (b : Nat) (num n tgt nxt : Int) (wt : Bool) (seq : Int) (sql : ByteArray) (tk rs rc : Int) (cols rows : Option Addr × Nat × Nat) (cnt idx : Int) (sm : Bool) (mk mf mt mterm mix mlt : Int) (ment : Option Addr × Nat × Nat) (mcm mrd : Int) (mok : Bool) (moff : Int) (mdat : Option Addr × Nat × Nat) (mdone : Bool) (mcl msq : Int) (msql : ByteArray) (mrs mrc : Int) (mcols mrows : Option Addr × Nat × Nat) (mcnt mridx mh : Int) (w : World) (h0 : 0 ≤ num) (h1 : num < 8) (hn : 0 < n) (hn' : n < 100) (hg : 0 ≤ tgt) (hg' : tgt < 100) (hwt : wt = true) (hk : mk = 8) (ht : mt = 100 + num) (hq : msq = seq) (ho : mok = false)
    (hh : 0 ≤ mh) (hh' : n ≤ mh) (hB : Blk w b 64 #[.int .i64 (num), .int .i64 (n), .int .i64 (tgt), .int .u64 (nxt), .bool (wt), .int .u64 (seq), .string (sql), .int .i64 (tk), .int .u64 (rs), .int .i64 (rc), .slice (cols).1 (cols).2.1 (cols).2.2, .slice (rows).1 (rows).2.1 (rows).2.2, .int .i64 (cnt), .int .u64 (idx), .bool (sm)]) :
    Calls Tryd.prog 18 #[.pointer (some ⟨b, 0, none⟩), .agg #[.int .i64 mk, .int .i64 mf, .int .i64 mt, .int .u64 mterm, .int .u64 mix, .int .u64 mlt, .slice ment.1 ment.2.1 ment.2.2, .int .u64 mcm, .int .u64 mrd, .bool mok, .int .i64 moff, .slice mdat.1 mdat.2.1 mdat.2.2, .bool mdone, .int .u64 mcl, .int .u64 msq, .string msql, .int .u64 mrs, .int .i64 mrc, .slice mcols.1 mcols.2.1 mcols.2.2, .slice mrows.1 mrows.2.1 mrows.2.2, .int .i64 mcnt, .int .u64 mridx, .int .i64 mh]] w fun e w' => e = .returned (.tuple #[.agg #[.int .i64 7, .int .i64 (100 + num), .int .i64 ((tgt + 1) % n), .int .u64 0, .int .u64 0, .int .u64 0, .slice none 0 0, .int .u64 0, .int .u64 0, .bool false, .int .i64 0, .slice none 0 0, .bool false, .int .u64 (num + 1), .int .u64 (seq), .string (sql), .int .u64 0, .int .i64 0, .slice none 0 0, .slice none 0 0, .int .i64 0, .int .u64 0, .int .i64 0], .bool true, .bool false]) ∧
      Blk w' b 64 #[.int .i64 (num), .int .i64 (n), .int .i64 ((tgt + 1) % n), .int .u64 (nxt), .bool (true), .int .u64 (seq), .string (sql), .int .i64 (0), .int .u64 (rs), .int .i64 (rc), .slice (cols).1 (cols).2.1 (cols).2.2, .slice (rows).1 (rows).2.1 (rows).2.2, .int .i64 (cnt), .int .u64 (idx), .bool (sm)] ∧ Keeps [b] w w' := by
  subst hwt hk ht hq ho
  have hd : decide (mh < n) = false := by simpa using hh'
  clear hh'
  have hc := hB.cell
  have hf := hB.free
  have hl := hB.lt
  have k1 : IntKind.i64.wrap (100 + num) = 100 + num := IntWalk.i64_in _ (by omega)
  go_enter Tryd.func18, Tryd.ntmps18
  go_wp2
  go_quiet (fail)
  go_wp2
  go_quiet (fail)
  clear k1
  go_wp2
  have q2 : IntKind.i64.wrap (tgt + 1) = tgt + 1 := IntWalk.i64_in _ (by omega)
  have q3 : (tgt + 1).tmod n = (tgt + 1) % n := Int.tmod_eq_emod_of_nonneg (by omega)
  have q4 : ¬ n = 0 := by omega
  refine wp_region_still_tail 13 (by kernel_rfl) (by kernel_rfl) ?_
  change wpStill _ _ (World.drew _) _ _ _
  simp only [List.take_succ_cons, List.take_zero, List.drop_succ_cons, List.drop_zero]
  repeat still_step
  refine wpStill_nil ?_
  change wpList _ _ _ _ _ (World.drew _)
  clear q2 q3 q4
  go_wp2_with fail
  refine (rrequest_any b num n ((tgt + 1) % n) nxt true msq sql 0 rs rc cols rows cnt idx sm _ h0 h1 ((((((hB.alloc _).alloc _).drewN _).drew).put 2 _).put 7 _)).mono ?_
  rintro e w1 ⟨rfl, hk1⟩
  have hne1 : w.heap.size + 1 ≠ b := by omega
  have hB1 := ((((((hB.alloc _).alloc _).drewN _).drew).put 2 _).put 7 _).keep hk1 (by simp)
  have hM := (((((Blk.fresh_at _ _ _ (n := w.heap.size + 1) (by simp)).drewN _).drew).other hne1 _).other hne1 _).keep hk1 (by simp)
  have hK : Keeps [b] w w1 := (((((((Keeps.refl [b] w).alloc _).alloc _).drewN _).drew).set (p := ⟨b, 2, none⟩) (.inl (by simp)) _).set (p := ⟨b, 7, none⟩) (.inl (by simp)) _).trans hk1.of_nil
  clear hk1 hc hf
  go_wp2_with (refine wpList_store_agg rfl rfl _ _ _ rfl (w.heap.size + 1) 0 rfl _ rfl 40 _ hM Tryd.sizeM (by simp) rfl _ rfl ?_; intro w2 hM2 hK2)
  exact bodyPost_ret (results_ctt rfl rfl hM2 Tryd.underlying40 rfl Tryd.sizeM) rfl ⟨rfl, hB1.keep hK2 (by simp; omega), hK.step hK2 (by simp)⟩

set_option maxRecDepth 100000 in
set_option maxHeartbeats 2000000 in
theorem rrecv_next2 (b : Nat) (num n tgt nxt : Int) (wt : Bool) (seq : Int) (sql : ByteArray) (tk rs rc : Int) (cols rows : Option Addr × Nat × Nat) (cnt idx : Int) (sm : Bool) (mk mf mt mterm mix mlt : Int) (ment : Option Addr × Nat × Nat) (mcm mrd : Int) (mok : Bool) (moff : Int) (mdat : Option Addr × Nat × Nat) (mdone : Bool) (mcl msq : Int) (msql : ByteArray) (mrs mrc : Int) (mcols mrows : Option Addr × Nat × Nat) (mcnt mridx mh : Int) (w : World) (h0 : 0 ≤ num) (h1 : num < 8) (hn : 0 < n) (hn' : n < 100) (hg : 0 ≤ tgt) (hg' : tgt < 100) (hwt : wt = true) (hk : mk = 8) (ht : mt = 100 + num) (hq : msq = seq) (ho : mok = false)
    (hh : 0 ≤ mh) (hh' : mh < n) (hm : mh = tgt) (hB : Blk w b 64 #[.int .i64 (num), .int .i64 (n), .int .i64 (tgt), .int .u64 (nxt), .bool (wt), .int .u64 (seq), .string (sql), .int .i64 (tk), .int .u64 (rs), .int .i64 (rc), .slice (cols).1 (cols).2.1 (cols).2.2, .slice (rows).1 (rows).2.1 (rows).2.2, .int .i64 (cnt), .int .u64 (idx), .bool (sm)]) :
    Calls Tryd.prog 18 #[.pointer (some ⟨b, 0, none⟩), .agg #[.int .i64 mk, .int .i64 mf, .int .i64 mt, .int .u64 mterm, .int .u64 mix, .int .u64 mlt, .slice ment.1 ment.2.1 ment.2.2, .int .u64 mcm, .int .u64 mrd, .bool mok, .int .i64 moff, .slice mdat.1 mdat.2.1 mdat.2.2, .bool mdone, .int .u64 mcl, .int .u64 msq, .string msql, .int .u64 mrs, .int .i64 mrc, .slice mcols.1 mcols.2.1 mcols.2.2, .slice mrows.1 mrows.2.1 mrows.2.2, .int .i64 mcnt, .int .u64 mridx, .int .i64 mh]] w fun e w' => e = .returned (.tuple #[.agg #[.int .i64 7, .int .i64 (100 + num), .int .i64 ((tgt + 1) % n), .int .u64 0, .int .u64 0, .int .u64 0, .slice none 0 0, .int .u64 0, .int .u64 0, .bool false, .int .i64 0, .slice none 0 0, .bool false, .int .u64 (num + 1), .int .u64 (seq), .string (sql), .int .u64 0, .int .i64 0, .slice none 0 0, .slice none 0 0, .int .i64 0, .int .u64 0, .int .i64 0], .bool true, .bool false]) ∧
      Blk w' b 64 #[.int .i64 (num), .int .i64 (n), .int .i64 ((tgt + 1) % n), .int .u64 (nxt), .bool (true), .int .u64 (seq), .string (sql), .int .i64 (0), .int .u64 (rs), .int .i64 (rc), .slice (cols).1 (cols).2.1 (cols).2.2, .slice (rows).1 (rows).2.1 (rows).2.2, .int .i64 (cnt), .int .u64 (idx), .bool (sm)] ∧ Keeps [b] w w' := by
  subst hwt hk ht hq ho
  subst hm
  have hc := hB.cell
  have hf := hB.free
  have hl := hB.lt
  have k1 : IntKind.i64.wrap (100 + num) = 100 + num := IntWalk.i64_in _ (by omega)
  go_enter Tryd.func18, Tryd.ntmps18
  go_wp2
  go_quiet (fail)
  go_wp2
  go_quiet (fail)
  clear k1
  go_wp2
  have q2 : IntKind.i64.wrap (mh + 1) = mh + 1 := IntWalk.i64_in _ (by omega)
  have q3 : (mh + 1).tmod n = (mh + 1) % n := Int.tmod_eq_emod_of_nonneg (by omega)
  have q4 : ¬ n = 0 := by omega
  refine wp_region_still_tail 13 (by kernel_rfl) (by kernel_rfl) ?_
  change wpStill _ _ (World.drew _) _ _ _
  simp only [List.take_succ_cons, List.take_zero, List.drop_succ_cons, List.drop_zero]
  repeat still_step
  refine wpStill_nil ?_
  change wpList _ _ _ _ _ (World.drew _)
  clear q2 q3 q4
  go_wp2_with fail
  refine (rrequest_any b num n ((mh + 1) % n) nxt true msq sql 0 rs rc cols rows cnt idx sm _ h0 h1 ((((((hB.alloc _).alloc _).drewN _).drew).put 2 _).put 7 _)).mono ?_
  rintro e w1 ⟨rfl, hk1⟩
  have hne1 : w.heap.size + 1 ≠ b := by omega
  have hB1 := ((((((hB.alloc _).alloc _).drewN _).drew).put 2 _).put 7 _).keep hk1 (by simp)
  have hM := (((((Blk.fresh_at _ _ _ (n := w.heap.size + 1) (by simp)).drewN _).drew).other hne1 _).other hne1 _).keep hk1 (by simp)
  have hK : Keeps [b] w w1 := (((((((Keeps.refl [b] w).alloc _).alloc _).drewN _).drew).set (p := ⟨b, 2, none⟩) (.inl (by simp)) _).set (p := ⟨b, 7, none⟩) (.inl (by simp)) _).trans hk1.of_nil
  clear hk1 hc hf
  go_wp2_with (refine wpList_store_agg rfl rfl _ _ _ rfl (w.heap.size + 1) 0 rfl _ rfl 40 _ hM Tryd.sizeM (by simp) rfl _ rfl ?_; intro w2 hM2 hK2)
  exact bodyPost_ret (results_ctt rfl rfl hM2 Tryd.underlying40 rfl Tryd.sizeM) rfl ⟨rfl, hB1.keep hK2 (by simp; omega), hK.step hK2 (by simp)⟩
end Go.Proofs.YtpkjcdmeabjifaaDoor
