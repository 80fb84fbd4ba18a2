/- DiskPlays: the disk and the document's disk side by side; the steps that come in. -/
import Derived.Test.YtcebbgmjbincbaaDoorRkb
import Derived.Test.YtcebbgmjbincbaaDoorDp0
import Derived.Test.YtcebbgmjbincbaaDoorWx
import Derived.Test.YtcebbgmjbincbaaDoorDl1

namespace Go.Proofs.YtcebbgmjbincbaaDoor
open Go.RowKit Go.Lib
section
variable {w wS w1 w2 : World} {rb db sb i : Nat} {L L' M M' : List Nat} {d d' : DSt} {r : DRes} {ev : Value} {n m b : List UInt8}
theorem Ref.off {g : Nat} {t : TypeId} {cs : Array Value} (h : Ref w M rb d) (hB : Blk w g t cs) (h1 : t ≠ 61) (h2 : t ≠ 65) (h3 : t ≠ 5) : g ∉ M := by
  obtain ⟨fl, fa, c, hM, hA, rfl, hok⟩ := h
  intro hx
  rcases mem_rfeet.1 hx with rfl | hx | ⟨f, hf, hx⟩
  · exact absurd rfl (hB.ne hM.blk h1)
  · obtain ⟨hl, hr⟩ := hM.own
    rcases hr with ⟨e, _⟩ | ⟨g', cap, cur, he, hb, hg, rest⟩
    · simp only [Value.slice.injEq] at e
      obtain ⟨rfl, _, _⟩ := e
      simp at hx
    · simp only [Value.slice.injEq] at he
      obtain ⟨rfl, _, rfl⟩ := he
      simp at hx
      subst hx
      exact absurd rfl (hB.ne (b' := g) hg h2)
  · obtain ⟨cs', hc⟩ := (hM.file f hf).bytes _ hx
    exact absurd rfl (hB.ne (b' := g) hc h3)
theorem app_rc (d : DSt) (n b : List UInt8) : (d.append n b).1.room = d.room ∧ (d.append n b).1.count ≤ d.count + 1 := by
  unfold DSt.append
  repeat' split
  all_goals simp [DSt.tick, DSt.fall]
theorem sync_rc (d : DSt) (n : List UInt8) : (d.sync n).1.room = d.room ∧ (d.sync n).1.count ≤ d.count + 1 := by
  unfold DSt.sync
  repeat' split
  all_goals simp [DSt.tick, DSt.fall]
theorem trunc_rc (d : DSt) (n : List UInt8) (k : Int) : (d.trunc n k).1.room = d.room ∧ (d.trunc n k).1.count ≤ d.count + 1 := by
  unfold DSt.trunc
  repeat' split
  all_goals simp [DSt.tick, DSt.fall]
theorem rename_rc (d : DSt) (n m : List UInt8) : (d.rename n m).1.room = d.room ∧ (d.rename n m).1.count ≤ d.count + 1 := by
  unfold DSt.rename
  repeat' split
  all_goals simp [DSt.tick, DSt.fall]
theorem remove_rc (d : DSt) (n : List UInt8) : (d.remove n).1.room = d.room ∧ (d.remove n).1.count ≤ d.count + 1 := by
  unfold DSt.remove
  repeat' split
  all_goals simp [DSt.tick, DSt.fall]

/-- both disks, side by side -/
structure DpS (w wS : World) (db rb : Nat) (L M : List Nat) (d : DSt) (i : Nat) : Prop where
  D : Disk wS L db d
  R : Ref wS M rb d
  lm : ∀ x ∈ L, x ∉ M
  lw : ∀ x ∈ L, w.heap.size ≤ x
  mw : ∀ x ∈ M, w.heap.size ≤ x
  kp : Keeps [] w wS
  room : d.room ≤ 5000
  cnt : d.count ≤ i
theorem DpS.keep (h : DpS w wS db rb L M d i) {K : List Nat} (hk : Keeps K wS w1) (hK : ∀ x ∈ K, w.heap.size ≤ x ∧ x ∉ L ∧ x ∉ M) : DpS w w1 db rb L M d i :=
  ⟨h.D.keep hk (fun x hx hm => (hK x hm).2.1 hx), h.R.keep hk (fun x hx hm => (hK x hm).2.2 hx), h.lm, h.lw, h.mw, h.kp.step hk (fun x hx => .inr (hK x hx).1), h.room, h.cnt⟩
theorem DpS.keep0 (h : DpS w wS db rb L M d i) (hk : Keeps [] wS w1) : DpS w w1 db rb L M d i := h.keep hk (by simp)
/-- the disk's call was done -/
theorem DpS.ref (h : DpS w wS db rb L M d i) (hk : Keeps L wS w1) : Ref w1 M rb d := h.R.keep hk (fun x hx hm => h.lm x hm hx)
/-- .. and the document's -/
theorem DpS.call (h : DpS w wS db rb L M d i) (hD1 : Disk w1 L' db d') (hk1 : Keeps L wS w1) (hL : ∀ x ∈ L', x ∈ L ∨ wS.heap.size ≤ x) (hR2 : Ref w2 M' rb d') (hk2 : Keeps M w1 w2) (hM : ∀ x ∈ M', x ∈ M ∨ w1.heap.size ≤ x)
    (hr : d'.room = d.room) (hc : d'.count ≤ d.count + 1) : DpS w w2 db rb L' M' d' (i + 1) := by
  have h1 : ∀ x ∈ L', x ∉ M := fun x hx hm => (hL x hx).elim (fun h2 => h.lm x h2 hm) (fun h2 => by have := h.R.lt x hm; omega)
  have hz := h.kp.size
  have hz1 := hk1.size
  refine ⟨hD1.keep hk2 h1, hR2, fun x hx hm => (hM x hm).elim (h1 x hx) (fun h2 => by have := hD1.lt x hx; omega), fun x hx => (hL x hx).elim (h.lw x) (fun h2 => by omega), fun x hx => (hM x hx).elim (h.mw x) (fun h2 => by omega), ?_, by rw [hr]; exact h.room, by have := h.cnt; omega⟩
  exact (h.kp.step hk1 (fun x hx => .inr (h.lw x hx))).step hk2 (fun x hx => .inr (h.mw x hx))
theorem DE.ref {w1 w2 : World} (h : DE w1 ev r) (hR : Ref w1 M rb d) (hk : Keeps M w1 w2) : DE w2 ev r := h.keep hk (fun g cs hB => hR.off hB (by decide) (by decide) (by decide))
theorem halt_ok (h : d.Ok) (k : Int) (hk : k ≤ 9223372036854775807) : ({ d with halt := max k (-1) } : DSt).Ok := ⟨h.used, h.room, h.few, h.name, h.sure, h.most, by show -1 ≤ max k (-1) ∧ max k (-1) ≤ 9223372036854775807; omega, h.nodup⟩
end
/-- a step of the law -/
structure Ps where
  what : Int
  n : Int
  name : List UInt8
  tn : List UInt8
  b : List UInt8
  ba : Option Addr
  bc : Nat
  keep : List Int
  ka : Option Addr
  kc : Nat
def Ps.cells (x : Ps) : List Value := [.int .i64 x.what, .int .i64 x.n, .string ⟨x.name.toArray⟩, .string ⟨x.tn.toArray⟩, .slice x.ba x.b.length x.bc, .slice x.ka x.keep.length x.kc]
structure Ps.okw (w : World) (x : Ps) : Prop where
  hn : x.n ≤ 9223372036854775807
  rb : Rb w x.ba x.bc x.b
  kp : Sl w 1 x.ka x.keep.length x.kc (x.keep.map (Value.int .i64))
def PsIn (w : World) (za : Option Addr) (zl : List Ps) : Prop := ∀ (k : Nat) (x : Ps), zl[k]? = some x → x.okw w ∧ ∃ b o, za = some ⟨b, o, none⟩ ∧ ∀ j v, x.cells[j]? = some v → w.cell? ⟨b, o + k * 6 + j, none⟩ = some v
theorem sizePs : (Tryd.prog.info? 48).map (·.size) = some 6 := by kernel_rfl
end Go.Proofs.YtcebbgmjbincbaaDoor
