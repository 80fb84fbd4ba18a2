/- Entries and logs as plain data. -/
import Derived.Test.YtdeaelbelcjhcaaDoorSl
import Derived.Test.YtdeaelbelcjhcaaDoorErrs

namespace Go.Proofs.YtdeaelbelcjhcaaDoor
open Go.RowKit

structure En where
  term : Int
  kind : Int
  client : Int
  seq : Int
  sql : ByteArray

def En.cells (e : En) : List Value := [.int .u64 e.term, .int .i64 e.kind, .int .u64 e.client, .int .u64 e.seq, .string e.sql]

def ens : List En → List Value
  | [] => []
  | e :: l => e.cells ++ ens l

theorem ens_length (l : List En) : (ens l).length = l.length * 5 := by
  induction l with
  | nil => rfl
  | cons e l ih => simp [ens, En.cells, ih]; omega

theorem ens_append (l m : List En) : ens (l ++ m) = ens l ++ ens m := by
  induction l with
  | nil => rfl
  | cons e l ih => simp [ens, ih]

theorem ens_drop (l : List En) (k : Nat) : ens (l.drop k) = (ens l).drop (k * 5) := by
  induction l generalizing k with
  | nil => simp [ens]
  | cons e l ih =>
    cases k with
    | zero => simp
    | succ k =>
      have h5 : (k + 1) * 5 = 5 + k * 5 := by omega
      simp only [List.drop_succ_cons, ih, ens, h5]
      rw [← List.drop_drop]
      rfl

theorem ens_take (l : List En) (k : Nat) : ens (l.take k) = (ens l).take (k * 5) := by
  induction l generalizing k with
  | nil => simp [ens]
  | cons e l ih =>
    cases k with
    | zero => simp [ens]
    | succ k =>
      have h5 : (k + 1) * 5 = k * 5 + 1 + 1 + 1 + 1 + 1 := by omega
      simp only [List.take_succ_cons, ih, ens, h5, En.cells, List.cons_append, List.nil_append, List.take_succ_cons]

theorem ens_one (l : List En) : ∀ u ∈ ens l, u.oneCell' = true := by
  induction l with
  | nil => intro u hu; simp [ens] at hu
  | cons e l ih =>
    intro u hu
    rcases List.mem_append.1 hu with hu | hu
    · simp [En.cells] at hu
      rcases hu with rfl | rfl | rfl | rfl | rfl <;> rfl
    · exact ih u hu

theorem ens_at (l : List En) (j : Nat) (e : En) (h : l[j]? = some e) (r : Nat) (hr : r < 5) : (ens l)[j * 5 + r]? = e.cells[r]? := by
  induction l generalizing j with
  | nil => simp at h
  | cons d l ih =>
    cases j with
    | zero =>
      simp only [List.getElem?_cons_zero, Option.some.injEq] at h
      subst h
      simp only [ens, Nat.zero_mul, Nat.zero_add]
      rw [List.getElem?_append_left (by simpa [En.cells] using hr)]
    | succ j =>
      simp only [List.getElem?_cons_succ] at h
      have h5 : (j + 1) * 5 + r = 5 + (j * 5 + r) := by omega
      rw [h5]
      simp only [ens]
      rw [List.getElem?_append_right (by simp [En.cells])]
      have : 5 + (j * 5 + r) - d.cells.length = j * 5 + r := by simp [En.cells]
      rw [this]
      exact ih j h

/-- a log: its base, the term there, its entries -/
structure Lg where
  base : Int
  tm : Int
  es : List En

def Lg.last (g : Lg) : Int := g.base + (g.es.length : Int)

/-- the term of an index that is there -/
def Lg.at (g : Lg) (i : Int) : Int := if i = g.base then g.tm else ((g.es[(i - g.base - 1).toNat]?).map En.term).getD 0

/-- how many of the entries from index at on are there -/
def Lg.fits (g : Lg) (commit : Int) : Int → List En → Nat
  | _, [] => 0
  | i, e :: l => if i ≤ g.last ∧ (i ≤ commit ∨ g.at i = e.term) then g.fits commit (i + 1) l + 1 else 0

theorem Lg.fits_le (g : Lg) (commit p : Int) (l : List En) : g.fits commit p l ≤ l.length := by
  induction l generalizing p with
  | nil => simp [Lg.fits]
  | cons d l ih =>
    simp only [Lg.fits]
    split
    · have := ih (p + 1); simp; omega
    · simp

theorem Lg.fits_step (g : Lg) (commit p : Int) (l : List En) (k : Nat) (e : En) (h : l[k]? = some e) (hk : k ≤ g.fits commit p l) :
    ((p + k ≤ g.last ∧ (p + k ≤ commit ∨ g.at (p + k) = e.term)) → k + 1 ≤ g.fits commit p l) ∧ (¬ (p + k ≤ g.last ∧ (p + k ≤ commit ∨ g.at (p + k) = e.term)) → g.fits commit p l = k) := by
  induction l generalizing p k with
  | nil => simp at h
  | cons d l ih =>
    cases k with
    | zero =>
      simp only [List.getElem?_cons_zero, Option.some.injEq] at h
      subst h
      simp only [Lg.fits, Int.natCast_zero, Int.add_zero]
      constructor
      · intro hc; rw [if_pos hc]; omega
      · intro hc; rw [if_neg hc]
    | succ k =>
      simp only [List.getElem?_cons_succ] at h
      simp only [Lg.fits] at hk ⊢
      split at hk
      · rename_i hc
        rw [if_pos hc]
        have := ih (p + 1) k h (by omega)
        have e1 : p + ((k + 1 : Nat) : Int) = p + 1 + (k : Int) := by omega
        rw [e1]
        constructor
        · intro hd; have := this.1 hd; omega
        · intro hd; have := this.2 hd; omega
      · omega

/-- what a Merge at an index that fits leaves -/
def Lg.laid (g : Lg) (prev : Int) (l : List En) (commit : Int) : Lg :=
  if g.fits commit (prev + 1) l = l.length then g else { g with es := g.es.take ((prev - g.base).toNat + g.fits commit (prev + 1) l) ++ l.drop (g.fits commit (prev + 1) l) }

/-- some entries from an index on -/
def Lg.part (g : Lg) (i most : Int) : List En := (g.es.drop (max i (g.base + 1) - g.base - 1).toNat).take most.toNat

/-- the log block b is the log g; no part of it is in a block of L -/
def LogAt (w : World) (b : Nat) (g : Lg) : Prop :=
  ∃ ao c, Blk w b 71 #[.int .u64 g.base, .int .u64 g.tm, .slice ao g.es.length c] ∧ Sl w 5 ao g.es.length c (ens g.es) ∧ ∀ ad, ao = some ad → g.es ≠ [] → ad.block ≠ b

end Go.Proofs.YtdeaelbelcjhcaaDoor
