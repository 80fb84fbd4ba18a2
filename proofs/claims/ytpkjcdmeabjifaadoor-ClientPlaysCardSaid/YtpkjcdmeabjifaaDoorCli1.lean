/- The client's methods, one contract each: request, may, turns. -/
import Derived.Test.YtpkjcdmeabjifaaDoorLaws

namespace Go.Proofs.YtpkjcdmeabjifaaDoor
open Go.RowKit

theorem Tryd.sizeM : (Tryd.prog.info? 40).map (·.size) = some 23 := by kernel_rfl

set_option maxRecDepth 100000 in
set_option maxHeartbeats 1000000 in
theorem request_any (b : Nat) (num n tgt seq : Int) (sql : ByteArray) (wt : Bool) (tk rs rc : Int) (cols rows : Option Addr × Nat × Nat) (cnt idx : Int) (sm : Bool) (w : World) (h0 : 0 ≤ num) (h1 : num < 8)
    (hB : Blk w b 73 #[.int .i64 (num), .int .i64 (n), .int .i64 (tgt), .int .u64 (seq), .string (sql), .bool (wt), .int .i64 (tk), .int .u64 (rs), .int .i64 (rc), .slice (cols).1 (cols).2.1 (cols).2.2, .slice (rows).1 (rows).2.1 (rows).2.2, .int .i64 (cnt), .int .u64 (idx), .bool (sm)]) :
    Calls Tryd.prog 23 #[.pointer (some ⟨b, 0, none⟩)] w fun e w' => e = .returned (.agg #[.int .i64 7, .int .i64 (100 + num), .int .i64 (tgt), .int .u64 0, .int .u64 0, .int .u64 0, .slice none 0 0, .int .u64 0, .int .u64 0, .bool false, .int .i64 0, .slice none 0 0, .bool false, .int .u64 (num + 1), .int .u64 (seq), .string (sql), .int .u64 0, .int .i64 0, .slice none 0 0, .slice none 0 0, .int .i64 0, .int .u64 0, .int .i64 0]) ∧ Keeps [] w w' := by
  have hc := hB.cell
  have hl := hB.lt
  have k1 : IntKind.i64.wrap (100 + num) = 100 + num := IntWalk.i64_in _ (by omega)
  have k2 : IntKind.u64.wrap num = num := by simp only [IntKind.wrap_u64]; omega
  have k3 : IntKind.u64.wrap (num + 1) = num + 1 := by simp only [IntKind.wrap_u64]; omega
  go_enter Tryd.func23, Tryd.ntmps23
  go_wp2
  refine wp_region_still_tail 24 (by kernel_rfl) (by kernel_rfl) ?_
  change wpStill _ _ (World.drew _) _ _ _
  simp only [List.take_succ_cons, List.take_zero, List.drop_succ_cons, List.drop_zero]
  repeat still_step
  refine wpStill_nil ?_
  clear k1 k2 k3
  refine wpList_store_agg (w := World.drew _) rfl rfl 40 (.tmp 2) (.tmp 26) rfl w.heap.size 0 rfl _ rfl 40 _ (Blk.drew (Blk.fresh _ _ _)) Tryd.sizeM (by simp) rfl _ rfl ?_
  intro w1 hM hK
  have hk : Keeps [] w w1 := (((Keeps.refl _ _).alloc _).drew).step hK (by simp)
  clear hK
  go_wp2
  refine bodyPost_ret (results_c rfl rfl hM Tryd.underlying40 rfl Tryd.sizeM) rfl ⟨rfl, hk⟩
end Go.Proofs.YtpkjcdmeabjifaaDoor
