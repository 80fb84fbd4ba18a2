/- The statements' own comparisons of messages and of answers, each of a thing and itself. -/
import Derived.Test.YtpkjcdmeabjifaaDoorCli5

namespace Go.Proofs.YtpkjcdmeabjifaaDoor
open Go.RowKit

set_option maxRecDepth 100000 in
set_option maxHeartbeats 2000000 in
theorem same_any (kind from' to' cl seq : Int) (sql : ByteArray) (w : World) :
    Calls Tryd.prog 16 #[.agg #[.int .i64 (kind), .int .i64 (from'), .int .i64 (to'), .int .u64 0, .int .u64 0, .int .u64 0, .slice none 0 0, .int .u64 0, .int .u64 0, .bool (false), .int .i64 0, .slice none 0 0, .bool false, .int .u64 (cl), .int .u64 (seq), .string (sql), .int .u64 0, .int .i64 0, .slice none 0 0, .slice none 0 0, .int .i64 0, .int .u64 0, .int .i64 0], .agg #[.int .i64 (kind), .int .i64 (from'), .int .i64 (to'), .int .u64 0, .int .u64 0, .int .u64 0, .slice none 0 0, .int .u64 0, .int .u64 0, .bool (false), .int .i64 0, .slice none 0 0, .bool false, .int .u64 (cl), .int .u64 (seq), .string (sql), .int .u64 0, .int .i64 0, .slice none 0 0, .slice none 0 0, .int .i64 0, .int .u64 0, .int .i64 0]] w fun e w' => e = .returned (.bool true) ∧ Keeps [] w w' := by
  go_enter Tryd.func16, Tryd.ntmps16
  go_wp2
  go_ret
  exact ⟨rfl, ((Keeps.refl [] w).alloc _).alloc _⟩
end Go.Proofs.YtpkjcdmeabjifaaDoor
