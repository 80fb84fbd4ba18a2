/- The client's methods, one contract each: may, turns, Ask, Tick. -/
import Derived.Test.YtpkjcdmeabjifaaDoorCli1

namespace Go.Proofs.YtpkjcdmeabjifaaDoor
open Go.RowKit

theorem may_busy (b : Nat) (num n tgt seq : Int) (sql : ByteArray) (wt : Bool) (tk rs rc : Int) (cols rows : Option Addr × Nat × Nat) (cnt idx : Int) (sm : Bool) (s : ByteArray) (w : World) (hwt : wt = true) (hB : Blk w b 73 #[.int .i64 (num), .int .i64 (n), .int .i64 (tgt), .int .u64 (seq), .string (sql), .bool (wt), .int .i64 (tk), .int .u64 (rs), .int .i64 (rc), .slice (cols).1 (cols).2.1 (cols).2.2, .slice (rows).1 (rows).2.1 (rows).2.2, .int .i64 (cnt), .int .u64 (idx), .bool (sm)]) :
    Calls Tryd.prog 22 #[.pointer (some ⟨b, 0, none⟩), .string s] w fun e w' => e = .returned (.iface 69 (.pointer (some ⟨w.heap.size, 0, none⟩))) ∧ w' = w.alloc (.cells #[.string ⟨#[99, 108, 105, 101, 110, 116]⟩, .iface 32 (.int .i64 53)] 71) := by
  subst hwt
  have hc := hB.cell
  go_enter Tryd.func22, Tryd.ntmps22
  go_wp2
  go_ret
  exact ⟨rfl, rfl⟩
theorem may_limit (b : Nat) (num n tgt seq : Int) (sql : ByteArray) (wt : Bool) (tk rs rc : Int) (cols rows : Option Addr × Nat × Nat) (cnt idx : Int) (sm : Bool) (s : ByteArray) (w : World) (hwt : wt = false) (hs : 2000 < s.size) (hB : Blk w b 73 #[.int .i64 (num), .int .i64 (n), .int .i64 (tgt), .int .u64 (seq), .string (sql), .bool (wt), .int .i64 (tk), .int .u64 (rs), .int .i64 (rc), .slice (cols).1 (cols).2.1 (cols).2.2, .slice (rows).1 (rows).2.1 (rows).2.2, .int .i64 (cnt), .int .u64 (idx), .bool (sm)]) :
    Calls Tryd.prog 22 #[.pointer (some ⟨b, 0, none⟩), .string s] w fun e w' => e = .returned (.iface 69 (.pointer (some ⟨w.heap.size, 0, none⟩))) ∧ w' = w.alloc (.cells #[.string ⟨#[99, 108, 105, 101, 110, 116]⟩, .iface 32 (.int .i64 2)] 71) := by
  subst hwt
  have hc := hB.cell
  go_enter Tryd.func22, Tryd.ntmps22
  go_wp2
  go_ret
  exact ⟨rfl, rfl⟩
theorem may_ok (b : Nat) (num n tgt seq : Int) (sql : ByteArray) (wt : Bool) (tk rs rc : Int) (cols rows : Option Addr × Nat × Nat) (cnt idx : Int) (sm : Bool) (s : ByteArray) (w : World) (hwt : wt = false) (hs : s.size ≤ 2000) (hB : Blk w b 73 #[.int .i64 (num), .int .i64 (n), .int .i64 (tgt), .int .u64 (seq), .string (sql), .bool (wt), .int .i64 (tk), .int .u64 (rs), .int .i64 (rc), .slice (cols).1 (cols).2.1 (cols).2.2, .slice (rows).1 (rows).2.1 (rows).2.2, .int .i64 (cnt), .int .u64 (idx), .bool (sm)]) :
    Calls Tryd.prog 22 #[.pointer (some ⟨b, 0, none⟩), .string s] w fun e w' => e = .returned .nilIface ∧ w = w' := by
  subst hwt
  have hc := hB.cell
  go_enter Tryd.func22, Tryd.ntmps22
  go_wp2
  go_ret
  exact ⟨rfl, rfl⟩

set_option maxRecDepth 100000 in
set_option maxHeartbeats 1000000 in
theorem turns_any (b : Nat) (num n tgt seq : Int) (sql : ByteArray) (wt : Bool) (tk rs rc : Int) (cols rows : Option Addr × Nat × Nat) (cnt idx : Int) (sm : Bool) (to : Int) (w : World) (h0 : 0 ≤ num) (h1 : num < 8) (hto : 0 ≤ to) (hn : 0 < n) (hn' : n < 100)
    (hB : Blk w b 73 #[.int .i64 (num), .int .i64 (n), .int .i64 (tgt), .int .u64 (seq), .string (sql), .bool (wt), .int .i64 (tk), .int .u64 (rs), .int .i64 (rc), .slice (cols).1 (cols).2.1 (cols).2.2, .slice (rows).1 (rows).2.1 (rows).2.2, .int .i64 (cnt), .int .u64 (idx), .bool (sm)]) :
    Calls Tryd.prog 24 #[.pointer (some ⟨b, 0, none⟩), .int .i64 to] w fun e w' => e = .returned (.agg #[.int .i64 7, .int .i64 (100 + num), .int .i64 (to % n), .int .u64 0, .int .u64 0, .int .u64 0, .slice none 0 0, .int .u64 0, .int .u64 0, .bool false, .int .i64 0, .slice none 0 0, .bool false, .int .u64 (num + 1), .int .u64 (seq), .string (sql), .int .u64 0, .int .i64 0, .slice none 0 0, .slice none 0 0, .int .i64 0, .int .u64 0, .int .i64 0]) ∧
      Blk w' b 73 #[.int .i64 (num), .int .i64 (n), .int .i64 (to % n), .int .u64 (seq), .string (sql), .bool (wt), .int .i64 (0), .int .u64 (rs), .int .i64 (rc), .slice (cols).1 (cols).2.1 (cols).2.2, .slice (rows).1 (rows).2.1 (rows).2.2, .int .i64 (cnt), .int .u64 (idx), .bool (sm)] ∧ Keeps [b] w w' := by
  have hc := hB.cell
  have hf := hB.free
  have hl := hB.lt
  go_enter Tryd.func24, Tryd.ntmps24
  go_wp2_with fail
  refine (request_any b num n (to % n) seq sql wt 0 rs rc cols rows cnt idx sm _ h0 h1 (((hB.put 2 _).put 6 _).alloc _)).mono ?_
  rintro e w1 ⟨rfl, hk1⟩
  have hB1 := (((hB.put 2 _).put 6 _).alloc _).keep hk1 (by simp)
  have hM := (Blk.fresh_at _ _ _ (n := w.heap.size) (by simp)).keep hk1 (by simp)
  have hk : Keeps [b] w w1 := ((((Keeps.refl [b] w).set (p := ⟨b, 2, none⟩) (.inl (by simp)) _).set (p := ⟨b, 6, none⟩) (.inl (by simp)) _).alloc _).trans hk1.of_nil
  clear hk1 hc hf
  go_wp2_with (refine wpList_store_agg rfl rfl _ _ _ rfl w.heap.size 0 rfl _ rfl 40 _ hM Tryd.sizeM (by simp) rfl _ rfl ?_; intro w2 hM2 hK2)
  refine bodyPost_ret (results_c rfl rfl hM2 Tryd.underlying40 rfl Tryd.sizeM) rfl ⟨rfl, hB1.keep hK2 (by simp; omega), hk.step hK2 (by simp)⟩
end Go.Proofs.YtpkjcdmeabjifaaDoor
