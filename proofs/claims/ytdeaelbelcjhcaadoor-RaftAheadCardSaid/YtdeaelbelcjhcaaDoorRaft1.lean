/- A node of raft: its state as plain data, and the small methods' contracts: Role, Term, Commit, Leader, most, draws, follows, ready. -/
import Derived.Test.YtdeaelbelcjhcaaDoorLog4
import Derived.Test.YtdeaelbelcjhcaaDoorLaws2
import Derived.Test.YtdeaelbelcjhcaaDoorReg

namespace Go.Proofs.YtdeaelbelcjhcaaDoor
open Go.RowKit

/-- address, length, capacity -/
abbrev Sl3 := Option Addr × Nat × Nat
abbrev sl3 (s : Sl3) : Value := .slice s.1 s.2.1 s.2.2

structure Rf where
  id : Int
  n : Int
  tm : Int
  vt : Int
  lg : Nat
  cm : Int
  ro : Int
  ld : Int
  el : Int
  tmo : Int
  vs : Sl3
  bt : Int
  rd : Int
  ps : Sl3
  rs : Sl3
  ms : Sl3
  ht : Int
  hv : Int
  fr : Int
  dn : Sl3
  ins : Sl3

def Rf.cells (r : Rf) : Array Value := #[.int .i64 r.id, .int .i64 r.n, .int .u64 r.tm, .int .i64 r.vt, .pointer (some ⟨r.lg, 0, none⟩), .int .u64 r.cm, .int .i64 r.ro, .int .i64 r.ld, .int .i64 r.el, .int .i64 r.tmo,
  .slice r.vs.1 r.vs.2.1 r.vs.2.2, .int .i64 r.bt, .int .u64 r.rd, .slice r.ps.1 r.ps.2.1 r.ps.2.2, .slice r.rs.1 r.rs.2.1 r.rs.2.2, .slice r.ms.1 r.ms.2.1 r.ms.2.2, .int .u64 r.ht, .int .i64 r.hv, .int .u64 r.fr, .slice r.dn.1 r.dn.2.1 r.dn.2.2, .slice r.ins.1 r.ins.2.1 r.ins.2.2]

theorem rrole (b : Nat) (r : Rf) (w : World) (hB : Blk w b 63 r.cells) :
    Calls Tryd.prog 9 #[.pointer (some ⟨b, 0, none⟩)] w fun e w' => e = .returned (.int .i64 r.ro) ∧ w' = w := by
  have hc := hB.cell
  simp only [Rf.cells] at hc
  have hl := hB.lt
  go_enter Tryd.func9, Tryd.ntmps9
  go_wp2
  go_ret
  exact ⟨rfl, rfl⟩

theorem rterm (b : Nat) (r : Rf) (w : World) (hB : Blk w b 63 r.cells) :
    Calls Tryd.prog 14 #[.pointer (some ⟨b, 0, none⟩)] w fun e w' => e = .returned (.int .u64 r.tm) ∧ w' = w := by
  have hc := hB.cell
  simp only [Rf.cells] at hc
  have hl := hB.lt
  go_enter Tryd.func14, Tryd.ntmps14
  go_wp2
  go_ret
  exact ⟨rfl, rfl⟩

theorem rcommit (b : Nat) (r : Rf) (w : World) (hB : Blk w b 63 r.cells) :
    Calls Tryd.prog 13 #[.pointer (some ⟨b, 0, none⟩)] w fun e w' => e = .returned (.int .u64 r.cm) ∧ w' = w := by
  have hc := hB.cell
  simp only [Rf.cells] at hc
  have hl := hB.lt
  go_enter Tryd.func13, Tryd.ntmps13
  go_wp2
  go_ret
  exact ⟨rfl, rfl⟩

theorem rmost (b : Nat) (r : Rf) (k : Int) (w : World) (hB : Blk w b 63 r.cells) (h0 : 0 ≤ k) (h1 : k < 1000) :
    Calls Tryd.prog 43 #[.pointer (some ⟨b, 0, none⟩), .int .i64 k] w fun e w' => e = .returned (.bool (decide (r.n < 2 * k))) ∧ w' = w := by
  have hc := hB.cell
  simp only [Rf.cells] at hc
  have hl := hB.lt
  have q : IntKind.i64.wrap (2 * k) = 2 * k := IntWalk.i64_in _ (by omega)
  go_enter Tryd.func43, Tryd.ntmps43
  go_wp2
  go_ret
  exact ⟨rfl, rfl⟩

theorem tmod20 (d : Int) : -20 < d.tmod 20 ∧ d.tmod 20 < 20 := by
  rcases Int.le_total 0 d with h | h
  · have h1 := Int.tmod_nonneg 20 h
    have h2 := Int.tmod_lt_of_pos d (b := 20) (by omega)
    omega
  · have e : d.tmod 20 = -((-d).tmod 20) := by rw [Int.neg_tmod, Int.neg_neg]
    have h1 := Int.tmod_nonneg (a := -d) 20 (by omega)
    have h2 := Int.tmod_lt_of_pos (-d) (b := 20) (by omega)
    omega

theorem rdraws (b : Nat) (r : Rf) (d : Int) (w : World) (hB : Blk w b 63 r.cells) :
    Calls Tryd.prog 17 #[.pointer (some ⟨b, 0, none⟩), .int .i64 d] w fun e w' => e = .returned (.tuple #[]) ∧ Blk w' b 63 ({ r with tmo := 10 + d.tmod 20 % 20 } : Rf).cells ∧ Keeps [b] w w' := by
  have hc := hB.cell
  simp only [Rf.cells] at hc
  have hl := hB.lt
  have hf := hB.free
  obtain ⟨t0, t1⟩ := tmod20 d
  have u0 : 0 ≤ (d.tmod 20 + 20).tmod 20 := Int.tmod_nonneg _ (by omega)
  have u1 : (d.tmod 20 + 20).tmod 20 < 20 := Int.tmod_lt_of_pos _ (by omega)
  have q1 : IntKind.i64.wrap (d.tmod 20) = d.tmod 20 := IntWalk.i64_in _ (by omega)
  have q2 : IntKind.i64.wrap (d.tmod 20 + 20) = d.tmod 20 + 20 := IntWalk.i64_in _ (by omega)
  have q3 : IntKind.i64.wrap ((d.tmod 20 + 20).tmod 20) = (d.tmod 20 + 20).tmod 20 := IntWalk.i64_in _ (by omega)
  have q4 : IntKind.i64.wrap (10 + (d.tmod 20 + 20).tmod 20) = 10 + (d.tmod 20 + 20).tmod 20 := IntWalk.i64_in _ (by omega)
  go_enter Tryd.func17, Tryd.ntmps17
  go_wp2
  go_end0
  exact ⟨rfl, (hB.put 9 _).eq (by simp [Rf.cells]), (Keeps.refl [b] w).set (by simp) _⟩

theorem rfollows (b : Nat) (r : Rf) (d : Int) (w : World) (hB : Blk w b 63 r.cells) :
    Calls Tryd.prog 22 #[.pointer (some ⟨b, 0, none⟩), .int .i64 d] w fun e w' => e = .returned (.tuple #[]) ∧ Blk w' b 63 ({ r with ro := 0, ld := d, rs := (none, 0, 0), vs := (none, 0, 0) } : Rf).cells ∧ Keeps [b] w w' := by
  have hc := hB.cell
  simp only [Rf.cells] at hc
  have hl := hB.lt
  have hf := hB.free
  go_enter Tryd.func22, Tryd.ntmps22
  go_wp2
  go_end0
  exact ⟨rfl, ((((hB.put 6 _).put 7 _).put 14 _).put 10 _).eq (by simp [Rf.cells]), ((((Keeps.refl [b] w).set (by simp) _).set (by simp) _).set (by simp) _).set (by simp) _⟩

theorem rleading (b : Nat) (r : Rf) (w : World) (hB : Blk w b 63 r.cells) (h : r.ro = 2) :
    Calls Tryd.prog 30 #[.pointer (some ⟨b, 0, none⟩)] w fun e w' => e = .returned .nilIface ∧ w' = w := by
  have hc := hB.cell
  simp only [Rf.cells, h] at hc
  have hl := hB.lt
  go_enter Tryd.func30, Tryd.ntmps30
  go_wp2
  go_ret
  exact ⟨rfl, rfl⟩

theorem rchanged (b : Nat) (r : Rf) (i : Int) (w : World) (hB : Blk w b 63 r.cells) (h0 : 0 < i) (h1 : r.fr = 0) :
    Calls Tryd.prog 47 #[.pointer (some ⟨b, 0, none⟩), .int .u64 i] w fun e w' => e = .returned (.tuple #[]) ∧ Blk w' b 63 ({ r with fr := i } : Rf).cells ∧ Keeps [b] w w' := by
  have hc := hB.cell
  simp only [Rf.cells, h1] at hc
  have hl := hB.lt
  have hf := hB.free
  go_enter Tryd.func47, Tryd.ntmps47
  go_wp2
  go_end0
  exact ⟨rfl, (hB.put 18 _).eq (by simp [Rf.cells]), (Keeps.refl [b] w).set (by simp) _⟩
end Go.Proofs.YtdeaelbelcjhcaaDoor
