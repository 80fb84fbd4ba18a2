/- The client's methods, one contract each: New, Recv. -/
import Derived.Test.YtpkjcdmeabjifaaDoorCli4

namespace Go.Proofs.YtpkjcdmeabjifaaDoor
open Go.RowKit
theorem new_ok (num n : Int) (w : World) (h0 : 0 ≤ num) (h1 : num < 8) (hn : 1 ≤ n) (hn' : n ≤ 7) :
    Calls Tryd.prog 7 #[.int .i64 num, .int .i64 n] w fun e w' => ∃ b, e = .returned (.tuple #[.pointer (some ⟨b, 0, none⟩), .nilIface]) ∧ w.heap.size ≤ b ∧
      Blk w' b 73 #[.int .i64 (num), .int .i64 (n), .int .i64 (num % n), .int .u64 (0), .string (⟨#[]⟩), .bool (false), .int .i64 (0), .int .u64 (0), .int .i64 (0), .slice (nilS).1 (nilS).2.1 (nilS).2.2, .slice (nilS).1 (nilS).2.1 (nilS).2.2, .int .i64 (0), .int .u64 (0), .bool (false)] ∧ Keeps [] w w' := by
  go_enter Tryd.func7, Tryd.ntmps7
  go_wp2
  go_ret2
  exact ⟨_, rfl, Nat.le_refl _, Blk.fresh _ _ _, (Keeps.refl [] w).alloc _⟩
set_option maxHeartbeats 1000000 in
theorem new_no (num n : Int) (w : World) (h : num < 0 ∨ 8 ≤ num ∨ n < 1 ∨ 7 < n) :
    Calls Tryd.prog 7 #[.int .i64 num, .int .i64 n] w fun e w' => ∃ g, e = .returned (.tuple #[.pointer none, .iface 69 (.pointer (some ⟨g, 0, none⟩))]) ∧ w.heap.size ≤ g ∧
      Blk w' g 71 #[.string ⟨#[99, 108, 105, 101, 110, 116]⟩, .iface 32 (.int .i64 50)] ∧ Keeps [] w w' := by
  go_enter Tryd.func7, Tryd.ntmps7
  go_wp2
  all_goals
    go_ret2
    exact ⟨_, rfl, Nat.le_refl _, Blk.fresh _ _ _, (Keeps.refl [] w).alloc _⟩
end Go.Proofs.YtpkjcdmeabjifaaDoor
