/- The client's methods, one contract each: Tick, Target, Waits, Reply. -/
import Derived.Test.YtpkjcdmeabjifaaDoorCli3

namespace Go.Proofs.YtpkjcdmeabjifaaDoor
open Go.RowKit

theorem Tryd.sizeR : (Tryd.prog.info? 38).map (·.size) = some 6 := by kernel_rfl

set_option maxRecDepth 100000 in
set_option maxHeartbeats 1000000 in
theorem tick_idle (b : Nat) (num n tgt seq : Int) (sql : ByteArray) (wt : Bool) (tk rs rc : Int) (cols rows : Option Addr × Nat × Nat) (cnt idx : Int) (sm : Bool) (w : World) (hwt : wt = false) (hB : Blk w b 73 #[.int .i64 (num), .int .i64 (n), .int .i64 (tgt), .int .u64 (seq), .string (sql), .bool (wt), .int .i64 (tk), .int .u64 (rs), .int .i64 (rc), .slice (cols).1 (cols).2.1 (cols).2.2, .slice (rows).1 (rows).2.1 (rows).2.2, .int .i64 (cnt), .int .u64 (idx), .bool (sm)]) :
    Calls Tryd.prog 11 #[.pointer (some ⟨b, 0, none⟩)] w fun e w' => e = .returned (.tuple #[.agg #[.int .i64 0, .int .i64 0, .int .i64 0, .int .u64 0, .int .u64 0, .int .u64 0, .slice none 0 0, .int .u64 0, .int .u64 0, .bool false, .int .i64 0, .slice none 0 0, .bool false, .int .u64 0, .int .u64 0, .string ⟨#[]⟩, .int .u64 0, .int .i64 0, .slice none 0 0, .slice none 0 0, .int .i64 0, .int .u64 0, .int .i64 0], .bool false]) ∧ Keeps [] w w' := by
  subst hwt
  have hc := hB.cell
  have hl := hB.lt
  go_enter Tryd.func11, Tryd.ntmps11
  go_wp2_with (refine wpList_store_agg rfl rfl _ _ _ rfl w.heap.size 0 rfl _ rfl 40 _ (Blk.fresh_at _ _ _ (n := w.heap.size) (by simp)) Tryd.sizeM (by simp) rfl _ rfl ?_; intro w2 hM2 hK2)
  exact bodyPost_ret (results_ct rfl rfl hM2 Tryd.underlying40 rfl Tryd.sizeM) rfl ⟨rfl, ((Keeps.refl [] w).alloc _).step hK2 (by simp)⟩

set_option maxRecDepth 100000 in
set_option maxHeartbeats 1000000 in
theorem tick_wait (b : Nat) (num n tgt seq : Int) (sql : ByteArray) (wt : Bool) (tk rs rc : Int) (cols rows : Option Addr × Nat × Nat) (cnt idx : Int) (sm : Bool) (w : World) (hwt : wt = true) (ht : 0 ≤ tk) (ht' : tk < 14) (hB : Blk w b 73 #[.int .i64 (num), .int .i64 (n), .int .i64 (tgt), .int .u64 (seq), .string (sql), .bool (wt), .int .i64 (tk), .int .u64 (rs), .int .i64 (rc), .slice (cols).1 (cols).2.1 (cols).2.2, .slice (rows).1 (rows).2.1 (rows).2.2, .int .i64 (cnt), .int .u64 (idx), .bool (sm)]) :
    Calls Tryd.prog 11 #[.pointer (some ⟨b, 0, none⟩)] w fun e w' => e = .returned (.tuple #[.agg #[.int .i64 0, .int .i64 0, .int .i64 0, .int .u64 0, .int .u64 0, .int .u64 0, .slice none 0 0, .int .u64 0, .int .u64 0, .bool false, .int .i64 0, .slice none 0 0, .bool false, .int .u64 0, .int .u64 0, .string ⟨#[]⟩, .int .u64 0, .int .i64 0, .slice none 0 0, .slice none 0 0, .int .i64 0, .int .u64 0, .int .i64 0], .bool false]) ∧
      Blk w' b 73 #[.int .i64 (num), .int .i64 (n), .int .i64 (tgt), .int .u64 (seq), .string (sql), .bool (true), .int .i64 (tk + 1), .int .u64 (rs), .int .i64 (rc), .slice (cols).1 (cols).2.1 (cols).2.2, .slice (rows).1 (rows).2.1 (rows).2.2, .int .i64 (cnt), .int .u64 (idx), .bool (sm)] ∧ Keeps [b] w w' := by
  subst hwt
  have hc := hB.cell
  have hf := hB.free
  have hl := hB.lt
  go_enter Tryd.func11, Tryd.ntmps11
  go_wp2_with (refine wpList_store_agg rfl rfl _ _ _ rfl w.heap.size 0 rfl _ rfl 40 _ (Blk.fresh_at _ _ _ (n := w.heap.size) (by simp)) Tryd.sizeM (by simp) rfl _ rfl ?_; intro w2 hM2 hK2)
  exact bodyPost_ret (results_ct rfl rfl hM2 Tryd.underlying40 rfl Tryd.sizeM) rfl ⟨rfl, ((hB.put 6 _).alloc _).keep hK2 (by simp; omega), (((Keeps.refl [b] w).set (p := ⟨b, 6, none⟩) (.inl (by simp)) _).alloc _).step hK2 (by simp)⟩

set_option maxRecDepth 100000 in
set_option maxHeartbeats 1000000 in
theorem tick_turn (b : Nat) (num n tgt seq : Int) (sql : ByteArray) (wt : Bool) (tk rs rc : Int) (cols rows : Option Addr × Nat × Nat) (cnt idx : Int) (sm : Bool) (w : World) (h0 : 0 ≤ num) (h1 : num < 8) (hn : 0 < n) (hn' : n < 100) (hg : 0 ≤ tgt) (hg' : tgt < 100) (hwt : wt = true) (ht : tk = 14) (hB : Blk w b 73 #[.int .i64 (num), .int .i64 (n), .int .i64 (tgt), .int .u64 (seq), .string (sql), .bool (wt), .int .i64 (tk), .int .u64 (rs), .int .i64 (rc), .slice (cols).1 (cols).2.1 (cols).2.2, .slice (rows).1 (rows).2.1 (rows).2.2, .int .i64 (cnt), .int .u64 (idx), .bool (sm)]) :
    Calls Tryd.prog 11 #[.pointer (some ⟨b, 0, none⟩)] w fun e w' => e = .returned (.tuple #[.agg #[.int .i64 7, .int .i64 (100 + num), .int .i64 ((tgt + 1) % n), .int .u64 0, .int .u64 0, .int .u64 0, .slice none 0 0, .int .u64 0, .int .u64 0, .bool false, .int .i64 0, .slice none 0 0, .bool false, .int .u64 (num + 1), .int .u64 (seq), .string (sql), .int .u64 0, .int .i64 0, .slice none 0 0, .slice none 0 0, .int .i64 0, .int .u64 0, .int .i64 0], .bool true]) ∧
      Blk w' b 73 #[.int .i64 (num), .int .i64 (n), .int .i64 ((tgt + 1) % n), .int .u64 (seq), .string (sql), .bool (true), .int .i64 (0), .int .u64 (rs), .int .i64 (rc), .slice (cols).1 (cols).2.1 (cols).2.2, .slice (rows).1 (rows).2.1 (rows).2.2, .int .i64 (cnt), .int .u64 (idx), .bool (sm)] ∧ Keeps [b] w w' := by
  subst hwt ht
  have hc := hB.cell
  have hf := hB.free
  have hl := hB.lt
  go_enter Tryd.func11, Tryd.ntmps11
  go_wp2_with fail
  refine (turns_any b num n tgt seq sql true 15 rs rc cols rows cnt idx sm (tgt + 1) _ h0 h1 (by omega) hn hn' ((hB.put 6 _).alloc _)).mono ?_
  rintro e w1 ⟨rfl, hB1, hk1⟩
  have hM := (Blk.fresh_at _ _ _ (n := w.heap.size) (by simp)).keep hk1 (by simp; omega)
  have hk : Keeps [b] w w1 := (((Keeps.refl [b] w).set (p := ⟨b, 6, none⟩) (.inl (by simp)) _).alloc _).trans hk1
  clear hk1 hc hf
  go_wp2_with (refine wpList_store_agg rfl rfl _ _ _ rfl w.heap.size 0 rfl _ rfl 40 _ hM Tryd.sizeM (by simp) rfl _ rfl ?_; intro w2 hM2 hK2)
  exact bodyPost_ret (results_ct rfl rfl hM2 Tryd.underlying40 rfl Tryd.sizeM) rfl ⟨rfl, hB1.keep hK2 (by simp; omega), hk.step hK2 (by simp)⟩

theorem target_any (b : Nat) (num n tgt seq : Int) (sql : ByteArray) (wt : Bool) (tk rs rc : Int) (cols rows : Option Addr × Nat × Nat) (cnt idx : Int) (sm : Bool) (w : World) (hB : Blk w b 73 #[.int .i64 (num), .int .i64 (n), .int .i64 (tgt), .int .u64 (seq), .string (sql), .bool (wt), .int .i64 (tk), .int .u64 (rs), .int .i64 (rc), .slice (cols).1 (cols).2.1 (cols).2.2, .slice (rows).1 (rows).2.1 (rows).2.2, .int .i64 (cnt), .int .u64 (idx), .bool (sm)]) :
    Calls Tryd.prog 10 #[.pointer (some ⟨b, 0, none⟩)] w fun e w' => e = .returned (.int .i64 tgt) ∧ w = w' := by
  have hc := hB.cell
  go_enter Tryd.func10, Tryd.ntmps10
  go_wp2
  go_ret
  exact ⟨rfl, rfl⟩
theorem waits_any (b : Nat) (num n tgt seq : Int) (sql : ByteArray) (wt : Bool) (tk rs rc : Int) (cols rows : Option Addr × Nat × Nat) (cnt idx : Int) (sm : Bool) (w : World) (hB : Blk w b 73 #[.int .i64 (num), .int .i64 (n), .int .i64 (tgt), .int .u64 (seq), .string (sql), .bool (wt), .int .i64 (tk), .int .u64 (rs), .int .i64 (rc), .slice (cols).1 (cols).2.1 (cols).2.2, .slice (rows).1 (rows).2.1 (rows).2.2, .int .i64 (cnt), .int .u64 (idx), .bool (sm)]) :
    Calls Tryd.prog 19 #[.pointer (some ⟨b, 0, none⟩)] w fun e w' => e = .returned (.tuple #[.int .u64 (if wt = true then seq else 0), .bool wt]) ∧ w = w' := by
  have hc := hB.cell
  cases wt
  all_goals
    go_enter Tryd.func19, Tryd.ntmps19
    go_wp2
    go_ret2
    exact ⟨rfl, rfl⟩
set_option maxRecDepth 100000 in
set_option maxHeartbeats 1000000 in
theorem reply_any (b : Nat) (num n tgt seq : Int) (sql : ByteArray) (wt : Bool) (tk rs rc : Int) (cols rows : Option Addr × Nat × Nat) (cnt idx : Int) (sm : Bool) (w : World) (hB : Blk w b 73 #[.int .i64 (num), .int .i64 (n), .int .i64 (tgt), .int .u64 (seq), .string (sql), .bool (wt), .int .i64 (tk), .int .u64 (rs), .int .i64 (rc), .slice (cols).1 (cols).2.1 (cols).2.2, .slice (rows).1 (rows).2.1 (rows).2.2, .int .i64 (cnt), .int .u64 (idx), .bool (sm)]) :
    Calls Tryd.prog 12 #[.pointer (some ⟨b, 0, none⟩)] w fun e w' => e = .returned (.tuple #[.agg #[.int .u64 (rs), .int .i64 (rc), .slice (cols).1 (cols).2.1 (cols).2.2, .slice (rows).1 (rows).2.1 (rows).2.2, .int .i64 (cnt), .int .u64 (idx)], .bool sm]) ∧ Keeps [] w w' := by
  have hc := hB.cell
  have hl := hB.lt
  go_enter Tryd.func12, Tryd.ntmps12
  go_wp2
  go_region
  go_wp2
  exact bodyPost_ret (results_ct rfl rfl (Blk.drew (Blk.fresh_at _ _ _ (by simp))) Tryd.underlying38 rfl Tryd.sizeR) rfl ⟨rfl, ((Keeps.refl [] w).alloc _).drew⟩
end Go.Proofs.YtpkjcdmeabjifaaDoor
