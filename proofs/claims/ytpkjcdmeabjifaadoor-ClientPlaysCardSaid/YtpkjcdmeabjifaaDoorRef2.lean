/- The document's client, one contract each: Tick. -/
import Derived.Test.YtpkjcdmeabjifaaDoorRef1

namespace Go.Proofs.YtpkjcdmeabjifaaDoor
open Go.RowKit

set_option maxRecDepth 100000 in
set_option maxHeartbeats 1000000 in
theorem rtick_idle (b : Nat) (num n tgt nxt : Int) (wt : Bool) (seq : Int) (sql : ByteArray) (tk rs rc : Int) (cols rows : Option Addr × Nat × Nat) (cnt idx : Int) (sm : Bool) (w : World) (hwt : wt = false) (hB : Blk w b 64 #[.int .i64 (num), .int .i64 (n), .int .i64 (tgt), .int .u64 (nxt), .bool (wt), .int .u64 (seq), .string (sql), .int .i64 (tk), .int .u64 (rs), .int .i64 (rc), .slice (cols).1 (cols).2.1 (cols).2.2, .slice (rows).1 (rows).2.1 (rows).2.2, .int .i64 (cnt), .int .u64 (idx), .bool (sm)]) :
    Calls Tryd.prog 17 #[.pointer (some ⟨b, 0, none⟩)] w fun e w' => e = .returned (.tuple #[.agg #[.int .i64 0, .int .i64 0, .int .i64 0, .int .u64 0, .int .u64 0, .int .u64 0, .slice none 0 0, .int .u64 0, .int .u64 0, .bool false, .int .i64 0, .slice none 0 0, .bool false, .int .u64 0, .int .u64 0, .string ⟨#[]⟩, .int .u64 0, .int .i64 0, .slice none 0 0, .slice none 0 0, .int .i64 0, .int .u64 0, .int .i64 0], .bool false]) ∧ Keeps [] w w' := by
  subst hwt
  have hc := hB.cell
  have hl := hB.lt
  go_enter Tryd.func17, Tryd.ntmps17
  go_wp2_with (refine wpList_store_fresh rfl rfl _ _ _ rfl _ rfl rfl _ rfl _ _ Tryd.sizeM (by simp) rfl ?_)
  exact bodyPost_ret (results_ct rfl rfl (Blk.fresh _ _ _) Tryd.underlying40 rfl Tryd.sizeM) rfl ⟨rfl, (Keeps.refl [] w).alloc _⟩

set_option maxRecDepth 100000 in
set_option maxHeartbeats 1000000 in
theorem rtick_wait (b : Nat) (num n tgt nxt : Int) (wt : Bool) (seq : Int) (sql : ByteArray) (tk rs rc : Int) (cols rows : Option Addr × Nat × Nat) (cnt idx : Int) (sm : Bool) (w : World) (hwt : wt = true) (ht : 0 ≤ tk) (ht' : tk < 14) (hB : Blk w b 64 #[.int .i64 (num), .int .i64 (n), .int .i64 (tgt), .int .u64 (nxt), .bool (wt), .int .u64 (seq), .string (sql), .int .i64 (tk), .int .u64 (rs), .int .i64 (rc), .slice (cols).1 (cols).2.1 (cols).2.2, .slice (rows).1 (rows).2.1 (rows).2.2, .int .i64 (cnt), .int .u64 (idx), .bool (sm)]) :
    Calls Tryd.prog 17 #[.pointer (some ⟨b, 0, none⟩)] w fun e w' => e = .returned (.tuple #[.agg #[.int .i64 0, .int .i64 0, .int .i64 0, .int .u64 0, .int .u64 0, .int .u64 0, .slice none 0 0, .int .u64 0, .int .u64 0, .bool false, .int .i64 0, .slice none 0 0, .bool false, .int .u64 0, .int .u64 0, .string ⟨#[]⟩, .int .u64 0, .int .i64 0, .slice none 0 0, .slice none 0 0, .int .i64 0, .int .u64 0, .int .i64 0], .bool false]) ∧
      Blk w' b 64 #[.int .i64 (num), .int .i64 (n), .int .i64 (tgt), .int .u64 (nxt), .bool (true), .int .u64 (seq), .string (sql), .int .i64 (tk + 1), .int .u64 (rs), .int .i64 (rc), .slice (cols).1 (cols).2.1 (cols).2.2, .slice (rows).1 (rows).2.1 (rows).2.2, .int .i64 (cnt), .int .u64 (idx), .bool (sm)] ∧ Keeps [b] w w' := by
  subst hwt
  have hc := hB.cell
  have hf := hB.free
  have hl := hB.lt
  go_enter Tryd.func17, Tryd.ntmps17
  go_wp2_with (refine wpList_store_agg rfl rfl _ _ _ rfl w.heap.size 0 rfl _ rfl 40 _ (Blk.fresh_at _ _ _ (n := w.heap.size) (by simp)) Tryd.sizeM (by simp) rfl _ rfl ?_; intro w2 hM2 hK2)
  exact bodyPost_ret (results_ct rfl rfl hM2 Tryd.underlying40 rfl Tryd.sizeM) rfl ⟨rfl, ((hB.put 7 _).alloc _).keep hK2 (by simp; omega), (((Keeps.refl [b] w).set (p := ⟨b, 7, none⟩) (.inl (by simp)) _).alloc _).step hK2 (by simp)⟩

set_option maxRecDepth 100000 in
set_option maxHeartbeats 1000000 in
theorem rtick_turn (b : Nat) (num n tgt nxt : Int) (wt : Bool) (seq : Int) (sql : ByteArray) (tk rs rc : Int) (cols rows : Option Addr × Nat × Nat) (cnt idx : Int) (sm : Bool) (w : World) (h0 : 0 ≤ num) (h1 : num < 8) (hn : 0 < n) (hn' : n < 100) (hg : 0 ≤ tgt) (hg' : tgt < 100) (hwt : wt = true) (ht : tk = 14) (hB : Blk w b 64 #[.int .i64 (num), .int .i64 (n), .int .i64 (tgt), .int .u64 (nxt), .bool (wt), .int .u64 (seq), .string (sql), .int .i64 (tk), .int .u64 (rs), .int .i64 (rc), .slice (cols).1 (cols).2.1 (cols).2.2, .slice (rows).1 (rows).2.1 (rows).2.2, .int .i64 (cnt), .int .u64 (idx), .bool (sm)]) :
    Calls Tryd.prog 17 #[.pointer (some ⟨b, 0, none⟩)] w fun e w' => e = .returned (.tuple #[.agg #[.int .i64 7, .int .i64 (100 + num), .int .i64 ((tgt + 1) % n), .int .u64 0, .int .u64 0, .int .u64 0, .slice none 0 0, .int .u64 0, .int .u64 0, .bool false, .int .i64 0, .slice none 0 0, .bool false, .int .u64 (num + 1), .int .u64 (seq), .string (sql), .int .u64 0, .int .i64 0, .slice none 0 0, .slice none 0 0, .int .i64 0, .int .u64 0, .int .i64 0], .bool true]) ∧
      Blk w' b 64 #[.int .i64 (num), .int .i64 (n), .int .i64 ((tgt + 1) % n), .int .u64 (nxt), .bool (true), .int .u64 (seq), .string (sql), .int .i64 (0), .int .u64 (rs), .int .i64 (rc), .slice (cols).1 (cols).2.1 (cols).2.2, .slice (rows).1 (rows).2.1 (rows).2.2, .int .i64 (cnt), .int .u64 (idx), .bool (sm)] ∧ Keeps [b] w w' := by
  subst hwt ht
  have hc := hB.cell
  have hf := hB.free
  have hl := hB.lt
  go_enter Tryd.func17, Tryd.ntmps17
  go_wp2
  have q2 : IntKind.i64.wrap (tgt + 1) = tgt + 1 := IntWalk.i64_in _ (by omega)
  have q3 : (tgt + 1).tmod n = (tgt + 1) % n := Int.tmod_eq_emod_of_nonneg (by omega)
  have q4 : ¬ n = 0 := by omega
  refine wp_region_still_tail 13 (by kernel_rfl) (by kernel_rfl) ?_
  change wpStill _ _ (World.drew _) _ _ _
  simp only [List.take_succ_cons, List.take_zero, List.drop_succ_cons, List.drop_zero]
  repeat still_step
  refine wpStill_nil ?_
  change wpList _ _ _ _ _ (World.drew _)
  clear q2 q3 q4
  go_wp2_with fail
  refine (rrequest_any b num n ((tgt + 1) % n) nxt true seq sql 0 rs rc cols rows cnt idx sm _ h0 h1 (((((hB.put 7 _).put 7 _).put 2 _).alloc _).drew)).mono ?_
  rintro e w1 ⟨rfl, hk1⟩
  have hB1 := (((((hB.put 7 _).put 7 _).put 2 _).alloc _).drew).keep hk1 (by simp)
  have hM := ((Blk.fresh_at _ _ _ (n := w.heap.size) (by simp)).drew).keep hk1 (by simp)
  have hk : Keeps [b] w w1 := ((((((Keeps.refl [b] w).set (p := ⟨b, 7, none⟩) (.inl (by simp)) _).set (p := ⟨b, 7, none⟩) (.inl (by simp)) _).set (p := ⟨b, 2, none⟩) (.inl (by simp)) _).alloc _).drew).trans hk1.of_nil
  clear hk1 hc hf
  go_wp2_with (refine wpList_store_agg rfl rfl _ _ _ rfl w.heap.size 0 rfl _ rfl 40 _ hM Tryd.sizeM (by simp) rfl _ rfl ?_; intro w2 hM2 hK2)
  exact bodyPost_ret (results_ct rfl rfl hM2 Tryd.underlying40 rfl Tryd.sizeM) rfl ⟨rfl, hB1.keep hK2 (by simp; omega), hk.step hK2 (by simp)⟩
end Go.Proofs.YtpkjcdmeabjifaaDoor
