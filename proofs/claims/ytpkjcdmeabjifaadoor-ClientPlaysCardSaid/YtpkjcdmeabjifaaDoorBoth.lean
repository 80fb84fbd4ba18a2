/- The client and the document's client beside each other: each call takes both from states that agree to states that agree, with one answer. -/
import Derived.Test.YtpkjcdmeabjifaaDoorCli6
import Derived.Test.YtpkjcdmeabjifaaDoorCli7
import Derived.Test.YtpkjcdmeabjifaaDoorCli8
import Derived.Test.YtpkjcdmeabjifaaDoorCliH
import Derived.Test.YtpkjcdmeabjifaaDoorRef3
import Derived.Test.YtpkjcdmeabjifaaDoorRef4
import Derived.Test.YtpkjcdmeabjifaaDoorRef5
import Derived.Test.YtpkjcdmeabjifaaDoorErr5

namespace Go.Proofs.YtpkjcdmeabjifaaDoor
open Go.RowKit

/-- in world w the error value is nil (class 0) or a part's error of that class -/
def ErrIs (w : World) (ev : Value) (f : Int) : Prop := (ev = .nilIface ∧ f = 0) ∨ ∃ g p, ev = .iface 69 (.pointer (some ⟨g, 0, none⟩)) ∧ Blk w g 71 #[.string p, .iface 32 (.int .i64 f)]
theorem ErrIs.keep {w w' : World} {ev : Value} {f : Int} (h : ErrIs w ev f) (hk : Keeps [] w w') : ErrIs w' ev f := by
  rcases h with h | ⟨g, p, h1, h2⟩
  · exact .inl h
  · exact .inr ⟨g, p, h1, h2.keep hk (by simp)⟩
theorem class_any (ev : Value) (f : Int) (w : World) (hg : (w).cell? ⟨0, 0, none⟩ = some (.iface 100 (.agg #[.pointer (some ⟨1, 26, none⟩)]))) (h : ErrIs w ev f) :
    Calls Tryd.prog 14 #[ev] w fun e w' => e = .returned (.int .i64 f) ∧ Keeps [] w w' := by
  rcases h with ⟨rfl, rfl⟩ | ⟨g, p, rfl, h2⟩
  · exact (class_nil w).mono fun e w' h => ⟨h.1, h.2 ▸ Keeps.refl _ _⟩
  · exact (class_within g f w hg (h2.cell 1)).mono fun e w' h => ⟨h.1, Keeps.of_below h.2⟩

theorem ask_both (b r : Nat) (num n tgt s : Int) (sql : ByteArray) (wt : Bool) (tk rs rc : Int) (cols rows : Option Addr × Nat × Nat) (cnt idx : Int) (sm : Bool) (q : ByteArray) (h0 : 0 ≤ num) (h1 : num < 8) (hs : 0 ≤ s) (hs' : s < 100000) (ht : 0 ≤ tk) (ht' : tk < 15) :
    ∃ (kind frm to' cl sq : Int) (ms : ByteArray) (f s' : Int) (sql' : ByteArray) (wt' : Bool) (tk' : Int), s ≤ s' ∧ s' ≤ s + 1 ∧ 0 ≤ tk' ∧ tk' < 15 ∧
      (∀ w, Blk w b 73 #[.int .i64 (num), .int .i64 (n), .int .i64 (tgt), .int .u64 (s), .string (sql), .bool (wt), .int .i64 (tk), .int .u64 (rs), .int .i64 (rc), .slice (cols).1 (cols).2.1 (cols).2.2, .slice (rows).1 (rows).2.1 (rows).2.2, .int .i64 (cnt), .int .u64 (idx), .bool (sm)] → Calls Tryd.prog 8 #[.pointer (some ⟨b, 0, none⟩), .string q] w fun e w' => ∃ ev, e = .returned (.tuple #[.agg #[.int .i64 (kind), .int .i64 (frm), .int .i64 (to'), .int .u64 0, .int .u64 0, .int .u64 0, .slice none 0 0, .int .u64 0, .int .u64 0, .bool (false), .int .i64 0, .slice none 0 0, .bool false, .int .u64 (cl), .int .u64 (sq), .string (ms), .int .u64 0, .int .i64 0, .slice none 0 0, .slice none 0 0, .int .i64 0, .int .u64 0, .int .i64 0], ev]) ∧ ErrIs w' ev f ∧
        Blk w' b 73 #[.int .i64 (num), .int .i64 (n), .int .i64 (tgt), .int .u64 (s'), .string (sql'), .bool (wt'), .int .i64 (tk'), .int .u64 (rs), .int .i64 (rc), .slice (cols).1 (cols).2.1 (cols).2.2, .slice (rows).1 (rows).2.1 (rows).2.2, .int .i64 (cnt), .int .u64 (idx), .bool (sm)] ∧ Keeps [b] w w') ∧
      (∀ w, Blk w r 64 #[.int .i64 (num), .int .i64 (n), .int .i64 (tgt), .int .u64 (s + 1), .bool (wt), .int .u64 (s), .string (sql), .int .i64 (tk), .int .u64 (rs), .int .i64 (rc), .slice (cols).1 (cols).2.1 (cols).2.2, .slice (rows).1 (rows).2.1 (rows).2.2, .int .i64 (cnt), .int .u64 (idx), .bool (sm)] → Calls Tryd.prog 15 #[.pointer (some ⟨r, 0, none⟩), .string q] w fun e w' => e = .returned (.tuple #[.agg #[.int .i64 (kind), .int .i64 (frm), .int .i64 (to'), .int .u64 0, .int .u64 0, .int .u64 0, .slice none 0 0, .int .u64 0, .int .u64 0, .bool (false), .int .i64 0, .slice none 0 0, .bool false, .int .u64 (cl), .int .u64 (sq), .string (ms), .int .u64 0, .int .i64 0, .slice none 0 0, .slice none 0 0, .int .i64 0, .int .u64 0, .int .i64 0], .int .i64 f]) ∧
        Blk w' r 64 #[.int .i64 (num), .int .i64 (n), .int .i64 (tgt), .int .u64 (s' + 1), .bool (wt'), .int .u64 (s'), .string (sql'), .int .i64 (tk'), .int .u64 (rs), .int .i64 (rc), .slice (cols).1 (cols).2.1 (cols).2.2, .slice (rows).1 (rows).2.1 (rows).2.2, .int .i64 (cnt), .int .u64 (idx), .bool (sm)] ∧ Keeps [r] w w') := by
  by_cases hw : wt = true
  · subst hw
    refine ⟨0, 0, 0, 0, 0, ⟨#[]⟩, 53, s, sql, true, tk, by omega, by omega, ht, ht', fun w hB => ?_, fun w hB => ?_⟩
    · refine (ask_busy b num n tgt s sql true tk rs rc cols rows cnt idx sm q w rfl hB).mono ?_
      rintro e w' ⟨g, rfl, hE, hk⟩
      exact ⟨_, rfl, .inr ⟨g, _, rfl, hE⟩, hB.keep hk (by simp), hk.of_nil⟩
    · refine (rask_busy r num n tgt (s + 1) true s sql tk rs rc cols rows cnt idx sm q w rfl hB).mono ?_
      rintro e w' ⟨rfl, hk⟩
      exact ⟨rfl, hB.keep hk (by simp), hk.of_nil⟩
  · obtain rfl : wt = false := by simpa using hw
    by_cases hq : 2000 < q.size
    · refine ⟨0, 0, 0, 0, 0, ⟨#[]⟩, 2, s, sql, false, tk, by omega, by omega, ht, ht', fun w hB => ?_, fun w hB => ?_⟩
      · refine (ask_limit b num n tgt s sql false tk rs rc cols rows cnt idx sm q w rfl hq hB).mono ?_
        rintro e w' ⟨g, rfl, hE, hk⟩
        exact ⟨_, rfl, .inr ⟨g, _, rfl, hE⟩, hB.keep hk (by simp), hk.of_nil⟩
      · refine (rask_limit r num n tgt (s + 1) false s sql tk rs rc cols rows cnt idx sm q w rfl hq hB).mono ?_
        rintro e w' ⟨rfl, hk⟩
        exact ⟨rfl, hB.keep hk (by simp), hk.of_nil⟩
    · refine ⟨7, 100 + num, tgt, num + 1, s + 1, q, 0, s + 1, q, true, 0, by omega, by omega, by omega, by omega, fun w hB => ?_, fun w hB => ?_⟩
      · refine (ask_ok b num n tgt s sql false tk rs rc cols rows cnt idx sm q w h0 h1 (by omega) hs (by omega) rfl hB).mono ?_
        rintro e w' ⟨rfl, hB', hk⟩
        exact ⟨_, rfl, .inl ⟨rfl, rfl⟩, hB', hk⟩
      · refine (rask_ok r num n tgt (s + 1) false s sql tk rs rc cols rows cnt idx sm q w h0 h1 (by omega) (by omega) (by omega) rfl hB).mono ?_
        rintro e w' ⟨rfl, hB', hk⟩
        exact ⟨rfl, hB', hk⟩

theorem tick_both (b r : Nat) (num n tgt s : Int) (sql : ByteArray) (wt : Bool) (tk rs rc : Int) (cols rows : Option Addr × Nat × Nat) (cnt idx : Int) (sm : Bool) (h0 : 0 ≤ num) (h1 : num < 8) (hn : 0 < n) (hn' : n < 100) (hg : 0 ≤ tgt) (hg' : tgt < n) (ht : 0 ≤ tk) (ht' : tk < 15) :
    ∃ (kind frm to' cl sq : Int) (ms : ByteArray) (p : Bool) (tgt' tk' : Int), 0 ≤ tgt' ∧ tgt' < n ∧ 0 ≤ tk' ∧ tk' < 15 ∧
      (∀ w, Blk w b 73 #[.int .i64 (num), .int .i64 (n), .int .i64 (tgt), .int .u64 (s), .string (sql), .bool (wt), .int .i64 (tk), .int .u64 (rs), .int .i64 (rc), .slice (cols).1 (cols).2.1 (cols).2.2, .slice (rows).1 (rows).2.1 (rows).2.2, .int .i64 (cnt), .int .u64 (idx), .bool (sm)] → Calls Tryd.prog 11 #[.pointer (some ⟨b, 0, none⟩)] w fun e w' => e = .returned (.tuple #[.agg #[.int .i64 (kind), .int .i64 (frm), .int .i64 (to'), .int .u64 0, .int .u64 0, .int .u64 0, .slice none 0 0, .int .u64 0, .int .u64 0, .bool (false), .int .i64 0, .slice none 0 0, .bool false, .int .u64 (cl), .int .u64 (sq), .string (ms), .int .u64 0, .int .i64 0, .slice none 0 0, .slice none 0 0, .int .i64 0, .int .u64 0, .int .i64 0], .bool p]) ∧
        Blk w' b 73 #[.int .i64 (num), .int .i64 (n), .int .i64 (tgt'), .int .u64 (s), .string (sql), .bool (wt), .int .i64 (tk'), .int .u64 (rs), .int .i64 (rc), .slice (cols).1 (cols).2.1 (cols).2.2, .slice (rows).1 (rows).2.1 (rows).2.2, .int .i64 (cnt), .int .u64 (idx), .bool (sm)] ∧ Keeps [b] w w') ∧
      (∀ w, Blk w r 64 #[.int .i64 (num), .int .i64 (n), .int .i64 (tgt), .int .u64 (s + 1), .bool (wt), .int .u64 (s), .string (sql), .int .i64 (tk), .int .u64 (rs), .int .i64 (rc), .slice (cols).1 (cols).2.1 (cols).2.2, .slice (rows).1 (rows).2.1 (rows).2.2, .int .i64 (cnt), .int .u64 (idx), .bool (sm)] → Calls Tryd.prog 17 #[.pointer (some ⟨r, 0, none⟩)] w fun e w' => e = .returned (.tuple #[.agg #[.int .i64 (kind), .int .i64 (frm), .int .i64 (to'), .int .u64 0, .int .u64 0, .int .u64 0, .slice none 0 0, .int .u64 0, .int .u64 0, .bool (false), .int .i64 0, .slice none 0 0, .bool false, .int .u64 (cl), .int .u64 (sq), .string (ms), .int .u64 0, .int .i64 0, .slice none 0 0, .slice none 0 0, .int .i64 0, .int .u64 0, .int .i64 0], .bool p]) ∧
        Blk w' r 64 #[.int .i64 (num), .int .i64 (n), .int .i64 (tgt'), .int .u64 (s + 1), .bool (wt), .int .u64 (s), .string (sql), .int .i64 (tk'), .int .u64 (rs), .int .i64 (rc), .slice (cols).1 (cols).2.1 (cols).2.2, .slice (rows).1 (rows).2.1 (rows).2.2, .int .i64 (cnt), .int .u64 (idx), .bool (sm)] ∧ Keeps [r] w w') := by
  by_cases hw : wt = true
  · subst hw
    by_cases h14 : tk = 14
    · subst h14
      refine ⟨7, 100 + num, (tgt + 1) % n, num + 1, s, sql, true, (tgt + 1) % n, 0, Int.emod_nonneg _ (by omega), Int.emod_lt_of_pos _ hn, by omega, by omega, fun w hB => ?_, fun w hB => ?_⟩
      · exact tick_turn b num n tgt s sql true 14 rs rc cols rows cnt idx sm w h0 h1 hn hn' hg (by omega) rfl rfl hB
      · exact rtick_turn r num n tgt (s + 1) true s sql 14 rs rc cols rows cnt idx sm w h0 h1 hn hn' hg (by omega) rfl rfl hB
    · refine ⟨0, 0, 0, 0, 0, ⟨#[]⟩, false, tgt, tk + 1, hg, hg', by omega, by omega, fun w hB => ?_, fun w hB => ?_⟩
      · exact tick_wait b num n tgt s sql true tk rs rc cols rows cnt idx sm w rfl ht (by omega) hB
      · exact rtick_wait r num n tgt (s + 1) true s sql tk rs rc cols rows cnt idx sm w rfl ht (by omega) hB
  · obtain rfl : wt = false := by simpa using hw
    refine ⟨0, 0, 0, 0, 0, ⟨#[]⟩, false, tgt, tk, hg, hg', ht, ht', fun w hB => ?_, fun w hB => ?_⟩
    · exact (tick_idle b num n tgt s sql false tk rs rc cols rows cnt idx sm w rfl hB).mono fun e w' h => ⟨h.1, hB.keep h.2 (by simp), h.2.of_nil⟩
    · exact (rtick_idle r num n tgt (s + 1) false s sql tk rs rc cols rows cnt idx sm w rfl hB).mono fun e w' h => ⟨h.1, hB.keep h.2 (by simp), h.2.of_nil⟩
end Go.Proofs.YtpkjcdmeabjifaaDoor
