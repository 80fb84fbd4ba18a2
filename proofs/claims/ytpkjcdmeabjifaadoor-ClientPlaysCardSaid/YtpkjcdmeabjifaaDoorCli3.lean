/- The client's methods, one contract each: Ask, Tick. -/
import Derived.Test.YtpkjcdmeabjifaaDoorCli2

namespace Go.Proofs.YtpkjcdmeabjifaaDoor
open Go.RowKit

set_option maxRecDepth 100000 in
set_option maxHeartbeats 1000000 in
theorem ask_ok (b : Nat) (num n tgt seq : Int) (sql : ByteArray) (wt : Bool) (tk rs rc : Int) (cols rows : Option Addr × Nat × Nat) (cnt idx : Int) (sm : Bool) (s : ByteArray) (w : World) (h0 : 0 ≤ num) (h1 : num < 8) (hs : s.size ≤ 2000) (hq : 0 ≤ seq) (hq' : seq < 1000000) (hwt : wt = false)
    (hB : Blk w b 73 #[.int .i64 (num), .int .i64 (n), .int .i64 (tgt), .int .u64 (seq), .string (sql), .bool (wt), .int .i64 (tk), .int .u64 (rs), .int .i64 (rc), .slice (cols).1 (cols).2.1 (cols).2.2, .slice (rows).1 (rows).2.1 (rows).2.2, .int .i64 (cnt), .int .u64 (idx), .bool (sm)]) :
    Calls Tryd.prog 8 #[.pointer (some ⟨b, 0, none⟩), .string s] w fun e w' => e = .returned (.tuple #[.agg #[.int .i64 7, .int .i64 (100 + num), .int .i64 (tgt), .int .u64 0, .int .u64 0, .int .u64 0, .slice none 0 0, .int .u64 0, .int .u64 0, .bool false, .int .i64 0, .slice none 0 0, .bool false, .int .u64 (num + 1), .int .u64 (seq + 1), .string (s), .int .u64 0, .int .i64 0, .slice none 0 0, .slice none 0 0, .int .i64 0, .int .u64 0, .int .i64 0], .nilIface]) ∧
      Blk w' b 73 #[.int .i64 (num), .int .i64 (n), .int .i64 (tgt), .int .u64 (seq + 1), .string (s), .bool (true), .int .i64 (0), .int .u64 (rs), .int .i64 (rc), .slice (cols).1 (cols).2.1 (cols).2.2, .slice (rows).1 (rows).2.1 (rows).2.2, .int .i64 (cnt), .int .u64 (idx), .bool (sm)] ∧ Keeps [b] w w' := by
  subst hwt
  have hc := hB.cell
  have hf := hB.free
  have hl := hB.lt
  go_enter Tryd.func8, Tryd.ntmps8
  go_wp2_with (go_at_call 22; refine (may_ok b num n tgt seq sql false tk rs rc cols rows cnt idx sm s _ rfl hs (hB.alloc _)).mono ?_; rintro e w1 ⟨rfl, rfl⟩)
  refine (request_any b num n tgt (seq + 1) s true 0 rs rc cols rows cnt idx sm _ h0 h1 (((((hB.put 3 _).put 4 _).put 5 _).put 6 _).alloc _)).mono ?_
  rintro e w1 ⟨rfl, hk1⟩
  have hB1 := (((((hB.put 3 _).put 4 _).put 5 _).put 6 _).alloc _).keep hk1 (by simp)
  have hM := (Blk.fresh_at _ _ _ (n := w.heap.size) (by simp)).keep hk1 (by simp)
  have hk : Keeps [b] w w1 := ((((((Keeps.refl [b] w).set (p := ⟨b, 3, none⟩) (.inl (by simp)) _).set (p := ⟨b, 4, none⟩) (.inl (by simp)) _).set (p := ⟨b, 5, none⟩) (.inl (by simp)) _).set (p := ⟨b, 6, none⟩) (.inl (by simp)) _).alloc _).trans hk1.of_nil
  clear hk1 hc hf
  go_wp2_with (refine wpList_store_agg rfl rfl _ _ _ rfl w.heap.size 0 rfl _ rfl 40 _ hM Tryd.sizeM (by simp) rfl _ rfl ?_; intro w2 hM2 hK2)
  refine bodyPost_ret (results_ct rfl rfl hM2 Tryd.underlying40 rfl Tryd.sizeM) rfl ⟨rfl, hB1.keep hK2 (by simp; omega), hk.step hK2 (by simp)⟩

set_option maxRecDepth 100000 in
set_option maxHeartbeats 1000000 in
theorem ask_busy (b : Nat) (num n tgt seq : Int) (sql : ByteArray) (wt : Bool) (tk rs rc : Int) (cols rows : Option Addr × Nat × Nat) (cnt idx : Int) (sm : Bool) (s : ByteArray) (w : World) (hwt : wt = true) (hB : Blk w b 73 #[.int .i64 (num), .int .i64 (n), .int .i64 (tgt), .int .u64 (seq), .string (sql), .bool (wt), .int .i64 (tk), .int .u64 (rs), .int .i64 (rc), .slice (cols).1 (cols).2.1 (cols).2.2, .slice (rows).1 (rows).2.1 (rows).2.2, .int .i64 (cnt), .int .u64 (idx), .bool (sm)]) :
    Calls Tryd.prog 8 #[.pointer (some ⟨b, 0, none⟩), .string s] w fun e w' => ∃ g, e = .returned (.tuple #[.agg #[.int .i64 0, .int .i64 0, .int .i64 0, .int .u64 0, .int .u64 0, .int .u64 0, .slice none 0 0, .int .u64 0, .int .u64 0, .bool false, .int .i64 0, .slice none 0 0, .bool false, .int .u64 0, .int .u64 0, .string ⟨#[]⟩, .int .u64 0, .int .i64 0, .slice none 0 0, .slice none 0 0, .int .i64 0, .int .u64 0, .int .i64 0], .iface 69 (.pointer (some ⟨g, 0, none⟩))]) ∧
      Blk w' g 71 #[.string ⟨#[99, 108, 105, 101, 110, 116]⟩, .iface 32 (.int .i64 53)] ∧ Keeps [] w w' := by
  have hc := hB.cell
  have hf := hB.free
  have hl := hB.lt
  go_enter Tryd.func8, Tryd.ntmps8
  go_wp2_with (first
    | (go_at_call 22; refine (may_busy b num n tgt seq sql wt tk rs rc cols rows cnt idx sm s _ hwt (hB.alloc _)).mono ?_; rintro e w1 ⟨rfl, rfl⟩)
    | (refine wpList_store_agg rfl rfl _ _ _ rfl w.heap.size 0 rfl _ rfl 40 _ ((Blk.fresh _ _ _).alloc _) Tryd.sizeM (by simp) rfl _ rfl ?_; intro w2 hM2 hK2))
  exact bodyPost_ret (results_ct rfl rfl hM2 Tryd.underlying40 rfl Tryd.sizeM) rfl ⟨w.heap.size + 1, rfl, (Blk.fresh_at _ _ _ (by simp)).keep hK2 (by simp), (((Keeps.refl [] w).alloc _).alloc _).step hK2 (by simp)⟩

set_option maxRecDepth 100000 in
set_option maxHeartbeats 1000000 in
theorem ask_limit (b : Nat) (num n tgt seq : Int) (sql : ByteArray) (wt : Bool) (tk rs rc : Int) (cols rows : Option Addr × Nat × Nat) (cnt idx : Int) (sm : Bool) (s : ByteArray) (w : World) (hwt : wt = false) (hs : 2000 < s.size) (hB : Blk w b 73 #[.int .i64 (num), .int .i64 (n), .int .i64 (tgt), .int .u64 (seq), .string (sql), .bool (wt), .int .i64 (tk), .int .u64 (rs), .int .i64 (rc), .slice (cols).1 (cols).2.1 (cols).2.2, .slice (rows).1 (rows).2.1 (rows).2.2, .int .i64 (cnt), .int .u64 (idx), .bool (sm)]) :
    Calls Tryd.prog 8 #[.pointer (some ⟨b, 0, none⟩), .string s] w fun e w' => ∃ g, e = .returned (.tuple #[.agg #[.int .i64 0, .int .i64 0, .int .i64 0, .int .u64 0, .int .u64 0, .int .u64 0, .slice none 0 0, .int .u64 0, .int .u64 0, .bool false, .int .i64 0, .slice none 0 0, .bool false, .int .u64 0, .int .u64 0, .string ⟨#[]⟩, .int .u64 0, .int .i64 0, .slice none 0 0, .slice none 0 0, .int .i64 0, .int .u64 0, .int .i64 0], .iface 69 (.pointer (some ⟨g, 0, none⟩))]) ∧
      Blk w' g 71 #[.string ⟨#[99, 108, 105, 101, 110, 116]⟩, .iface 32 (.int .i64 2)] ∧ Keeps [] w w' := by
  have hc := hB.cell
  have hf := hB.free
  have hl := hB.lt
  go_enter Tryd.func8, Tryd.ntmps8
  go_wp2_with (first
    | (go_at_call 22; refine (may_limit b num n tgt seq sql wt tk rs rc cols rows cnt idx sm s _ hwt hs (hB.alloc _)).mono ?_; rintro e w1 ⟨rfl, rfl⟩)
    | (refine wpList_store_agg rfl rfl _ _ _ rfl w.heap.size 0 rfl _ rfl 40 _ ((Blk.fresh _ _ _).alloc _) Tryd.sizeM (by simp) rfl _ rfl ?_; intro w2 hM2 hK2))
  exact bodyPost_ret (results_ct rfl rfl hM2 Tryd.underlying40 rfl Tryd.sizeM) rfl ⟨w.heap.size + 1, rfl, (Blk.fresh_at _ _ _ (by simp)).keep hK2 (by simp), (((Keeps.refl [] w).alloc _).alloc _).step hK2 (by simp)⟩
end Go.Proofs.YtpkjcdmeabjifaaDoor
