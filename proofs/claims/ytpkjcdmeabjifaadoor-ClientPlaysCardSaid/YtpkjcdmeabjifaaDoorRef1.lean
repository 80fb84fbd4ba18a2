/- The document's client, one contract each: request, New, Ask, Waits. -/
import Derived.Test.YtpkjcdmeabjifaaDoorCli5

namespace Go.Proofs.YtpkjcdmeabjifaaDoor
open Go.RowKit

set_option maxRecDepth 100000 in
set_option maxHeartbeats 1000000 in
theorem rrequest_any (b : Nat) (num n tgt nxt : Int) (wt : Bool) (seq : Int) (sql : ByteArray) (tk rs rc : Int) (cols rows : Option Addr × Nat × Nat) (cnt idx : Int) (sm : Bool) (w : World) (h0 : 0 ≤ num) (h1 : num < 8)
    (hB : Blk w b 64 #[.int .i64 (num), .int .i64 (n), .int .i64 (tgt), .int .u64 (nxt), .bool (wt), .int .u64 (seq), .string (sql), .int .i64 (tk), .int .u64 (rs), .int .i64 (rc), .slice (cols).1 (cols).2.1 (cols).2.2, .slice (rows).1 (rows).2.1 (rows).2.2, .int .i64 (cnt), .int .u64 (idx), .bool (sm)]) :
    Calls Tryd.prog 27 #[.pointer (some ⟨b, 0, none⟩)] w fun e w' => e = .returned (.agg #[.int .i64 7, .int .i64 (100 + num), .int .i64 (tgt), .int .u64 0, .int .u64 0, .int .u64 0, .slice none 0 0, .int .u64 0, .int .u64 0, .bool false, .int .i64 0, .slice none 0 0, .bool false, .int .u64 (num + 1), .int .u64 (seq), .string (sql), .int .u64 0, .int .i64 0, .slice none 0 0, .slice none 0 0, .int .i64 0, .int .u64 0, .int .i64 0]) ∧ Keeps [] w w' := by
  have hc := hB.cell
  have hl := hB.lt
  have k1 : IntKind.i64.wrap (100 + num) = 100 + num := IntWalk.i64_in _ (by omega)
  have k2 : IntKind.u64.wrap num = num := by simp only [IntKind.wrap_u64]; omega
  have k3 : IntKind.u64.wrap (num + 1) = num + 1 := by simp only [IntKind.wrap_u64]; omega
  go_enter Tryd.func27, Tryd.ntmps27
  go_wp2
  refine wp_region_still_tail 24 (by kernel_rfl) (by kernel_rfl) ?_
  change wpStill _ _ (World.drew _) _ _ _
  simp only [List.take_succ_cons, List.take_zero, List.drop_succ_cons, List.drop_zero]
  repeat still_step
  refine wpStill_nil ?_
  clear k1 k2 k3
  refine wpList_store_agg (w := World.drew _) rfl rfl 40 (.tmp 2) (.tmp 26) rfl w.heap.size 0 rfl _ rfl 40 _ (Blk.drew (Blk.fresh _ _ _)) Tryd.sizeM (by simp) rfl _ rfl ?_
  intro w1 hM hK
  have hk : Keeps [] w w1 := (((Keeps.refl _ _).alloc _).drew).step hK (by simp)
  clear hK
  go_wp2
  refine bodyPost_ret (results_c rfl rfl hM Tryd.underlying40 rfl Tryd.sizeM) rfl ⟨rfl, hk⟩

theorem rnew_ok (num n : Int) (w : World) (h0 : 0 ≤ num) (h1 : num < 8) (hn : 1 ≤ n) (hn' : n ≤ 7) :
    Calls Tryd.prog 13 #[.int .i64 num, .int .i64 n] w fun e w' => ∃ b, e = .returned (.tuple #[.pointer (some ⟨b, 0, none⟩), .int .i64 0]) ∧ w.heap.size ≤ b ∧
      Blk w' b 64 #[.int .i64 (num), .int .i64 (n), .int .i64 (num % n), .int .u64 (1), .bool (false), .int .u64 (0), .string (⟨#[]⟩), .int .i64 (0), .int .u64 (0), .int .i64 (0), .slice (nilS).1 (nilS).2.1 (nilS).2.2, .slice (nilS).1 (nilS).2.1 (nilS).2.2, .int .i64 (0), .int .u64 (0), .bool (false)] ∧ Keeps [] w w' := by
  go_enter Tryd.func13, Tryd.ntmps13
  go_wp2
  go_ret2
  exact ⟨_, rfl, Nat.le_refl _, Blk.fresh _ _ _, (Keeps.refl [] w).alloc _⟩
set_option maxHeartbeats 1000000 in
theorem rnew_no (num n : Int) (w : World) (h : num < 0 ∨ 8 ≤ num ∨ n < 1 ∨ 7 < n) :
    Calls Tryd.prog 13 #[.int .i64 num, .int .i64 n] w fun e w' => e = .returned (.tuple #[.pointer none, .int .i64 50]) ∧ w = w' := by
  go_enter Tryd.func13, Tryd.ntmps13
  go_wp2
  all_goals
    go_ret2
    exact ⟨rfl, rfl⟩
theorem rwaits_any (b : Nat) (num n tgt nxt : Int) (wt : Bool) (seq : Int) (sql : ByteArray) (tk rs rc : Int) (cols rows : Option Addr × Nat × Nat) (cnt idx : Int) (sm : Bool) (w : World) (hB : Blk w b 64 #[.int .i64 (num), .int .i64 (n), .int .i64 (tgt), .int .u64 (nxt), .bool (wt), .int .u64 (seq), .string (sql), .int .i64 (tk), .int .u64 (rs), .int .i64 (rc), .slice (cols).1 (cols).2.1 (cols).2.2, .slice (rows).1 (rows).2.1 (rows).2.2, .int .i64 (cnt), .int .u64 (idx), .bool (sm)]) :
    Calls Tryd.prog 20 #[.pointer (some ⟨b, 0, none⟩)] w fun e w' => e = .returned (.tuple #[.int .u64 (if wt = true then seq else 0), .bool wt]) ∧ w = w' := by
  have hc := hB.cell
  cases wt
  all_goals
    go_enter Tryd.func20, Tryd.ntmps20
    go_wp2
    go_ret2
    exact ⟨rfl, rfl⟩

set_option maxRecDepth 100000 in
set_option maxHeartbeats 1000000 in
theorem rask_ok (b : Nat) (num n tgt nxt : Int) (wt : Bool) (seq : Int) (sql : ByteArray) (tk rs rc : Int) (cols rows : Option Addr × Nat × Nat) (cnt idx : Int) (sm : Bool) (s : ByteArray) (w : World) (h0 : 0 ≤ num) (h1 : num < 8) (hs : s.size ≤ 2000) (hq : 0 ≤ nxt) (hq' : nxt < 1000000) (hwt : wt = false)
    (hB : Blk w b 64 #[.int .i64 (num), .int .i64 (n), .int .i64 (tgt), .int .u64 (nxt), .bool (wt), .int .u64 (seq), .string (sql), .int .i64 (tk), .int .u64 (rs), .int .i64 (rc), .slice (cols).1 (cols).2.1 (cols).2.2, .slice (rows).1 (rows).2.1 (rows).2.2, .int .i64 (cnt), .int .u64 (idx), .bool (sm)]) :
    Calls Tryd.prog 15 #[.pointer (some ⟨b, 0, none⟩), .string s] w fun e w' => e = .returned (.tuple #[.agg #[.int .i64 7, .int .i64 (100 + num), .int .i64 (tgt), .int .u64 0, .int .u64 0, .int .u64 0, .slice none 0 0, .int .u64 0, .int .u64 0, .bool false, .int .i64 0, .slice none 0 0, .bool false, .int .u64 (num + 1), .int .u64 (nxt), .string (s), .int .u64 0, .int .i64 0, .slice none 0 0, .slice none 0 0, .int .i64 0, .int .u64 0, .int .i64 0], .int .i64 0]) ∧
      Blk w' b 64 #[.int .i64 (num), .int .i64 (n), .int .i64 (tgt), .int .u64 (nxt + 1), .bool (true), .int .u64 (nxt), .string (s), .int .i64 (0), .int .u64 (rs), .int .i64 (rc), .slice (cols).1 (cols).2.1 (cols).2.2, .slice (rows).1 (rows).2.1 (rows).2.2, .int .i64 (cnt), .int .u64 (idx), .bool (sm)] ∧ Keeps [b] w w' := by
  subst hwt
  have hc := hB.cell
  have hf := hB.free
  have hl := hB.lt
  go_enter Tryd.func15, Tryd.ntmps15
  go_wp2_with fail
  refine (rrequest_any b num n tgt (nxt + 1) true nxt s 0 rs rc cols rows cnt idx sm _ h0 h1 ((((((hB.put 4 _).put 5 _).put 6 _).put 7 _).put 3 _).alloc _)).mono ?_
  rintro e w1 ⟨rfl, hk1⟩
  have hB1 := ((((((hB.put 4 _).put 5 _).put 6 _).put 7 _).put 3 _).alloc _).keep hk1 (by simp)
  have hM := (Blk.fresh_at _ _ _ (n := w.heap.size) (by simp)).keep hk1 (by simp)
  have hk : Keeps [b] w w1 := (((((((Keeps.refl [b] w).set (p := ⟨b, 4, none⟩) (.inl (by simp)) _).set (p := ⟨b, 5, none⟩) (.inl (by simp)) _).set (p := ⟨b, 6, none⟩) (.inl (by simp)) _).set (p := ⟨b, 7, none⟩) (.inl (by simp)) _).set (p := ⟨b, 3, none⟩) (.inl (by simp)) _).alloc _).trans hk1.of_nil
  clear hk1 hc hf
  go_wp2_with (refine wpList_store_agg rfl rfl _ _ _ rfl w.heap.size 0 rfl _ rfl 40 _ hM Tryd.sizeM (by simp) rfl _ rfl ?_; intro w2 hM2 hK2)
  refine bodyPost_ret (results_ct rfl rfl hM2 Tryd.underlying40 rfl Tryd.sizeM) rfl ⟨rfl, hB1.keep hK2 (by simp; omega), hk.step hK2 (by simp)⟩

set_option maxRecDepth 100000 in
set_option maxHeartbeats 1000000 in
theorem rask_busy (b : Nat) (num n tgt nxt : Int) (wt : Bool) (seq : Int) (sql : ByteArray) (tk rs rc : Int) (cols rows : Option Addr × Nat × Nat) (cnt idx : Int) (sm : Bool) (s : ByteArray) (w : World) (hwt : wt = true) (hB : Blk w b 64 #[.int .i64 (num), .int .i64 (n), .int .i64 (tgt), .int .u64 (nxt), .bool (wt), .int .u64 (seq), .string (sql), .int .i64 (tk), .int .u64 (rs), .int .i64 (rc), .slice (cols).1 (cols).2.1 (cols).2.2, .slice (rows).1 (rows).2.1 (rows).2.2, .int .i64 (cnt), .int .u64 (idx), .bool (sm)]) :
    Calls Tryd.prog 15 #[.pointer (some ⟨b, 0, none⟩), .string s] w fun e w' => e = .returned (.tuple #[.agg #[.int .i64 0, .int .i64 0, .int .i64 0, .int .u64 0, .int .u64 0, .int .u64 0, .slice none 0 0, .int .u64 0, .int .u64 0, .bool false, .int .i64 0, .slice none 0 0, .bool false, .int .u64 0, .int .u64 0, .string ⟨#[]⟩, .int .u64 0, .int .i64 0, .slice none 0 0, .slice none 0 0, .int .i64 0, .int .u64 0, .int .i64 0], .int .i64 53]) ∧ Keeps [] w w' := by
  subst hwt
  have hc := hB.cell
  have hl := hB.lt
  go_enter Tryd.func15, Tryd.ntmps15
  go_wp2_with (refine wpList_store_fresh rfl rfl _ _ _ rfl _ rfl rfl _ rfl _ _ Tryd.sizeM (by simp) rfl ?_)
  exact bodyPost_ret (results_ct rfl rfl (Blk.fresh _ _ _) Tryd.underlying40 rfl Tryd.sizeM) rfl ⟨rfl, (Keeps.refl [] w).alloc _⟩

set_option maxRecDepth 100000 in
set_option maxHeartbeats 1000000 in
theorem rask_limit (b : Nat) (num n tgt nxt : Int) (wt : Bool) (seq : Int) (sql : ByteArray) (tk rs rc : Int) (cols rows : Option Addr × Nat × Nat) (cnt idx : Int) (sm : Bool) (s : ByteArray) (w : World) (hwt : wt = false) (hs : 2000 < s.size) (hB : Blk w b 64 #[.int .i64 (num), .int .i64 (n), .int .i64 (tgt), .int .u64 (nxt), .bool (wt), .int .u64 (seq), .string (sql), .int .i64 (tk), .int .u64 (rs), .int .i64 (rc), .slice (cols).1 (cols).2.1 (cols).2.2, .slice (rows).1 (rows).2.1 (rows).2.2, .int .i64 (cnt), .int .u64 (idx), .bool (sm)]) :
    Calls Tryd.prog 15 #[.pointer (some ⟨b, 0, none⟩), .string s] w fun e w' => e = .returned (.tuple #[.agg #[.int .i64 0, .int .i64 0, .int .i64 0, .int .u64 0, .int .u64 0, .int .u64 0, .slice none 0 0, .int .u64 0, .int .u64 0, .bool false, .int .i64 0, .slice none 0 0, .bool false, .int .u64 0, .int .u64 0, .string ⟨#[]⟩, .int .u64 0, .int .i64 0, .slice none 0 0, .slice none 0 0, .int .i64 0, .int .u64 0, .int .i64 0], .int .i64 2]) ∧ Keeps [] w w' := by
  subst hwt
  have hc := hB.cell
  have hl := hB.lt
  go_enter Tryd.func15, Tryd.ntmps15
  go_wp2_with (refine wpList_store_fresh rfl rfl _ _ _ rfl _ rfl rfl _ rfl _ _ Tryd.sizeM (by simp) rfl ?_)
  exact bodyPost_ret (results_ct rfl rfl (Blk.fresh _ _ _) Tryd.underlying40 rfl Tryd.sizeM) rfl ⟨rfl, (Keeps.refl [] w).alloc _⟩
end Go.Proofs.YtpkjcdmeabjifaaDoor
