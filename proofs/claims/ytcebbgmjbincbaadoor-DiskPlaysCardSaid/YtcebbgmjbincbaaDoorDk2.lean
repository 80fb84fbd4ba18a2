/- The disk's calls on plain data. -/
import Derived.Test.YtcebbgmjbincbaaDoorDk1
import Derived.Test.YtcebbgmjbincbaaDoorErrD
namespace Go.Proofs.YtcebbgmjbincbaaDoor
open Go.RowKit Go.Lib

def rightB (c : UInt8) : Bool := (decide (97 ≤ c) && decide (c ≤ 122)) || (decide (48 ≤ c) && decide (c ≤ 57)) || c == 46 || c == 45 || c == 95
/-- may this be a file's name? -/
def right (s : List UInt8) : Bool := decide (1 ≤ s.length) && decide (s.length ≤ 40) && s.all rightB

/-- a changing call is done -/
def DSt.tick (d : DSt) : DSt := { d with halt := if 0 < d.halt then d.halt - 1 else d.halt, count := d.count + 1 }
/-- the power goes -/
def DSt.fall (d : DSt) : DSt := { d with off := true }
def DSt.got (d : DSt) (n : List UInt8) : Fil := (mget n d.fs).getD ⟨[], 0⟩
def DSt.append (d : DSt) (n b : List UInt8) : DSt × DRes :=
  if d.off = true then (d, .down)
  else if right n = false then (d, .bad n 20)
  else if d.room < usedOf d.fs + b.length ∨ (mget n d.fs = none ∧ 64 ≤ d.fs.length) ∨ 1048576 < (d.got n).b.length + b.length then (d, .bad n 31)
  else if d.halt = 0 then (d.fall, .down)
  else ({ d.tick with fs := mput n ⟨(d.got n).b ++ b, (d.got n).sure⟩ d.fs }, .ok)
def DSt.find (d : DSt) (n : List UInt8) : DRes :=
  if d.off = true then .down else match mget n d.fs with
    | none => .bad n 30
    | some _ => .ok
def DSt.sync (d : DSt) (n : List UInt8) : DSt × DRes :=
  if d.off = true then (d, .down) else match mget n d.fs with
    | none => (d, .bad n 30)
    | some f => if d.halt = 0 then (d.fall, .down) else ({ d.tick with fs := mput n ⟨f.b, f.b.length⟩ d.fs }, .ok)
def DSt.trunc (d : DSt) (n : List UInt8) (k : Int) : DSt × DRes :=
  if d.off = true then (d, .down) else match mget n d.fs with
    | none => (d, .bad n 30)
    | some f => if k < 0 ∨ (f.b.length : Int) < k then (d, .bad n 40) else if d.halt = 0 then (d.fall, .down)
      else ({ d.tick with fs := mput n ⟨f.b.take k.toNat, min f.sure k.toNat⟩ d.fs }, .ok)
def DSt.rename (d : DSt) (n m : List UInt8) : DSt × DRes :=
  if d.off = true then (d, .down) else if right m = false then (d, .bad m 20) else match mget n d.fs with
    | none => (d, .bad n 30)
    | some f => if d.halt = 0 then (d.fall, .down) else if n = m then (d.tick, .ok)
      else ({ d.tick with fs := mput m f (mdel n d.fs) }, .ok)
def DSt.remove (d : DSt) (n : List UInt8) : DSt × DRes :=
  if d.off = true then (d, .down) else match mget n d.fs with
    | none => (d, .bad n 30)
    | some _ => if d.halt = 0 then (d.fall, .down) else ({ d.tick with fs := mdel n d.fs }, .ok)

/-- the names, in order -/
def DSt.names (d : DSt) : List (List UInt8) := (d.fs.map (·.1)).mergeSort fun x y => decide (x ≤ y)
/-- what a crash leaves of a file: what was sure, and so many bytes more as it keeps -/
def crashF (keep : List Int) (i : Nat) (f : Fil) : Fil :=
  let k := match keep[i]? with
    | none => 0
    | some k => (min (max k 0) ((f.b.length - f.sure : Nat) : Int)).toNat
  ⟨f.b.take (f.sure + k), f.sure + k⟩
def DSt.crash (d : DSt) (keep : List Int) : DSt :=
  { d with fs := d.fs.map (fun f => (f.1, crashF keep (d.names.idxOf f.1) f.2)), halt := -1, off := false }

theorem usedOf_mput {n : List UInt8} {f : Fil} : ∀ {fs : List (List UInt8 × Fil)}, usedOf (mput n f fs) + ((mget n fs).getD ⟨[], 0⟩).b.length = usedOf fs + f.b.length
  | [] => by simp [mput, mget, usedOf]
  | g :: r => by
    by_cases e : g.1 = n
    · simp [mput, mget, e, usedOf]; omega
    · have := usedOf_mput (n := n) (f := f) (fs := r)
      simp only [mput, if_neg e, mget, usedOf, List.map_cons, List.sum_cons] at this ⊢
      omega
theorem usedOf_mdel {n : List UInt8} : ∀ {fs : List (List UInt8 × Fil)}, usedOf (mdel n fs) + ((mget n fs).getD ⟨[], 0⟩).b.length = usedOf fs
  | [] => by simp [mdel, mget, usedOf]
  | g :: r => by
    by_cases e : g.1 = n
    · simp [mdel, mget, e, usedOf]; omega
    · have := usedOf_mdel (n := n) (fs := r)
      simp only [mdel, if_neg e, mget, usedOf, List.map_cons, List.sum_cons] at this ⊢
      omega
theorem usedOf_le {n : List UInt8} {f : Fil} {fs : List (List UInt8 × Fil)} (h : mget n fs = some f) : f.b.length ≤ usedOf fs := by
  have := usedOf_mdel (n := n) (fs := fs)
  rw [h] at this
  simp only [Option.getD_some] at this
  omega

section
variable {d : DSt} {n m b : List UInt8}
theorem DSt.Ok.tick (h : d.Ok) : d.tick.Ok := by
  refine ⟨h.used, h.room, h.few, h.name, h.sure, h.most, ?_, h.nodup⟩
  have := h.halt
  simp only [DSt.tick]
  split <;> omega
theorem DSt.Ok.fall (h : d.Ok) : d.fall.Ok := ⟨h.used, h.room, h.few, h.name, h.sure, h.most, h.halt, h.nodup⟩
theorem right_len (h : right n = true) : n.length ≤ 40 := by
  simp only [right, Bool.and_eq_true, decide_eq_true_eq] at h
  exact h.1.2
theorem DSt.got_some {f : Fil} (h : mget n d.fs = some f) : d.got n = f := by simp [DSt.got, h]
theorem DSt.got_none (h : mget n d.fs = none) : d.got n = ⟨[], 0⟩ := by simp [DSt.got, h]
theorem mget_key {α : Type} {fs : List (List UInt8 × α)} {v : α} (h : mget n fs = some v) : n ∈ fs.map (·.1) := List.mem_map.2 ⟨(n, v), mget_mem h, rfl⟩
/-- a file laid anew keeps what may be said of the disk -/
theorem DSt.Ok.put (h : d.Ok) {f : Fil} (h1 : f.sure ≤ f.b.length) (h2 : f.b.length ≤ 1048576) (h3 : usedOf d.fs + f.b.length ≤ d.room + (d.got n).b.length) (h4 : mget n d.fs = none → d.fs.length < 64 ∧ n.length ≤ 40) : ({ d with fs := mput n f d.fs } : DSt).Ok := by
  have hu := usedOf_mput (n := n) (f := f) (fs := d.fs)
  refine ⟨?_, h.room, ?_, fun x hx => ?_, fun x hx => ?_, fun x hx => ?_, h.halt, nodup_mput h.nodup⟩
  · simp only [DSt.got] at h3
    show usedOf (mput n f d.fs) ≤ d.room
    omega
  · show (mput n f d.fs).length ≤ 64
    rw [length_mput]
    have := h.few
    cases hm : mget n d.fs with
    | none => have := (h4 hm).1; simp; omega
    | some f => simp; omega
  · rcases mem_mput hx with rfl | hx
    · cases hm : mget n d.fs with
      | none => exact (h4 hm).2
      | some f' => exact h.name (n, f') (mget_mem hm)
    · exact h.name x hx
  · rcases mem_mput hx with rfl | hx
    · exact h1
    · exact h.sure x hx
  · rcases mem_mput hx with rfl | hx
    · exact h2
    · exact h.most x hx
theorem DSt.Ok.del (h : d.Ok) : ({ d with fs := mdel n d.fs } : DSt).Ok := by
  have hu := usedOf_mdel (n := n) (fs := d.fs)
  refine ⟨?_, h.room, ?_, fun x hx => h.name x (mem_mdel hx), fun x hx => h.sure x (mem_mdel hx), fun x hx => h.most x (mem_mdel hx), h.halt, nodup_mdel h.nodup⟩
  · have := h.used
    show usedOf (mdel n d.fs) ≤ d.room
    omega
  · have := congrArg List.length (keys_mdel (s := n) d.fs)
    simp only [List.length_map] at this
    have h2 := List.length_erase_le (a := n) (l := d.fs.map (·.1))
    have := h.few
    show (mdel n d.fs).length ≤ 64
    simp at h2
    omega
end
end Go.Proofs.YtcebbgmjbincbaaDoor
