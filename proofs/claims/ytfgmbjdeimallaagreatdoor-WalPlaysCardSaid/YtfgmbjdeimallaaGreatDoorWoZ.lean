/- Rows as bytes: IndexByte, May. -/
import Derived.Test.YtfgmbjdeimallaaGreatDoorWvZ
import Derived.Lib.Bytealg
import Derived.Lib.SlBytesConst

namespace Go.Proofs.YtfgmbjdeimallaaGreatDoor
open Go.RowKit Go.Lib

theorem indexByte_neg (l : List UInt8) (c : UInt8) : (Lib.indexByte l c < 0 ↔ c ∉ l) ∧ -1 ≤ Lib.indexByte l c := by
  induction l with
  | nil => simp [Lib.indexByte]
  | cons b l ih =>
    unfold Lib.indexByte
    obtain ⟨h1, h2⟩ := ih
    by_cases hb : b = c
    · subst hb
      simp
    · have hb' : (b == c) = false := by simpa using hb
      rw [hb']
      simp only [Bool.false_eq_true, if_false, List.mem_cons, not_or]
      by_cases hi : Lib.indexByte l c = -1
      · have hx : c ∉ l := h1.1 (by omega)
        simp [hi, hx, Ne.symm hb]
      · have hx : ¬ (c ∉ l) := fun h => by have := h1.2 h; omega
        have hii : (Lib.indexByte l c == -1) = false := by simpa using hi
        rw [hii]
        simp only [Bool.false_eq_true, if_false]
        refine ⟨⟨fun h => by omega, fun h => absurd h.2 hx⟩, by omega⟩

/-- may a value be? -/
def mayV (v : Va) : Bool :=
  if v.kind = 0 then decide (v.int = 0) && v.text.toList.isEmpty else
  if v.kind = 1 then (decide (v.int = 0) || decide (v.int = 1)) && v.text.toList.isEmpty else
  if v.kind = 2 then v.text.toList.isEmpty else
  if v.kind = 3 then decide (v.int = 0) && decide (v.text.size ≤ 40) && decide ((0 : UInt8) ∉ v.text.data.toList) else false

/-- a value's bytes -/
def putV (v : Va) : List UInt8 := (UInt8.ofNat v.kind.toNat) ::
  (if v.kind = 1 then [UInt8.ofNat v.int.toNat] else if v.kind = 2 then uvarint (zigzag v.int) else if v.kind = 3 then uvarint v.text.size ++ v.text.data.toList else [])
def putVs (l : List Va) : List UInt8 := (l.map putV).flatten
/-- a row's bytes, if it may be -/
def rowOk (l : List Va) : Bool := decide (l.length ≤ 64) && l.all mayV
def putRow (l : List Va) : List UInt8 := uvarint l.length ++ putVs l

theorem mayV_kind {v : Va} (h : mayV v = true) : v.kind = 0 ∨ v.kind = 1 ∨ v.kind = 2 ∨ v.kind = 3 := by
  unfold mayV at h
  by_cases h0 : v.kind = 0
  · exact .inl h0
  by_cases h1 : v.kind = 1
  · exact .inr (.inl h1)
  by_cases h2 : v.kind = 2
  · exact .inr (.inr (.inl h2))
  by_cases h3 : v.kind = 3
  · exact .inr (.inr (.inr h3))
  rw [if_neg h0, if_neg h1, if_neg h2, if_neg h3] at h
  cases h
theorem mayV_bool {v : Va} (h : mayV v = true) (h1 : v.kind = 1) : v.int = 0 ∨ v.int = 1 := by
  unfold mayV at h
  rw [if_neg (by omega), if_pos h1] at h
  simp at h
  exact h.1
theorem mayV_text {v : Va} (h : mayV v = true) (h1 : v.kind = 3) : v.int = 0 ∧ v.text.size ≤ 40 ∧ (0 : UInt8) ∉ v.text.data.toList := by
  unfold mayV at h
  rw [if_neg (by omega), if_neg (by omega), if_neg (by omega), if_pos h1] at h
  simpa [and_assoc] using h
theorem putV_length {v : Va} (h : mayV v = true) (hi : v.kind = 2 → zigzag v.int < 18446744073709551616) : (putV v).length ≤ 51 := by
  unfold putV
  by_cases h1 : v.kind = 1
  · rw [if_pos h1]; simp
  by_cases h2 : v.kind = 2
  · rw [if_neg h1, if_pos h2]
    have := uvarint_length64 (hi h2)
    simp only [List.length_cons]
    omega
  by_cases h3 : v.kind = 3
  · rw [if_neg h1, if_neg h2, if_pos h3]
    have ht := (mayV_text h h3).2.1
    have := uvarint_length64 (x := v.text.size) (by omega)
    have hs : v.text.data.toList.length = v.text.size := by rw [Array.length_toList]; rfl
    simp only [List.length_cons, List.length_append]
    omega
  rw [if_neg h1, if_neg h2, if_neg h3]; simp
end Go.Proofs.YtfgmbjdeimallaaGreatDoor
/- Rows as bytes: PutRow. -/

namespace Go.Proofs.YtfgmbjdeimallaaGreatDoor
open Go.RowKit Go.Lib

/-- an error of a class, placed or not -/
inductive ErrP (w : World) (ev : Value) (f : Nat) : Prop
  | base (h : ErrF w ev f) : ErrP w ev f
  | placed {b : Nat} {i : Int} {ev' : Value} (he : ev = .iface 89 (.pointer (some ⟨b, 0, none⟩))) (hB : Blk w b 91 #[.int .i64 i, ev']) (h : ErrF w ev' f) (h0 : f ≠ 0) : ErrP w ev f
theorem ErrP.keep {w w' : World} {ev : Value} {f : Nat} (h : ErrP w ev f) (hk : Keeps [] w w') : ErrP w' ev f := by
  cases h with
  | base h => exact .base (h.keep hk)
  | placed he hB h h0 => exact .placed he (hB.keep hk (by simp)) (h.keep hk) h0
theorem ErrP.zero {w : World} {ev : Value} {f : Nat} (h : ErrP w ev f) : ev = .nilIface ↔ f = 0 := by
  cases h with
  | base h => exact h.zero
  | placed he _ _ h0 => subst he; simp [h0]

/-- the cells of the k-th value -/
theorem Rv.at {w : World} {ao : Option Addr} {c : Nat} {l : List Va} (h : Rv w ao c l) {k : Nat} {v : Va} (hv : l[k]? = some v) :
    ∃ bb o, ao = some ⟨bb, o, none⟩ ∧ w.cell? ⟨bb, o + k * 3, none⟩ = some (.int .i64 v.kind) ∧ w.cell? ⟨bb, o + k * 3 + 1, none⟩ = some (.int .i64 v.int) ∧ w.cell? ⟨bb, o + k * 3 + 2, none⟩ = some (.string v.text) := by
  have hkl := (List.getElem?_eq_some_iff.1 hv).1
  obtain ⟨bb, o, rfl⟩ := Sl.at h (by have := h.cap; omega)
  have key : ∀ (l : List Va) (k : Nat), l[k]? = some v → ∀ j u, v.cells.toList[j]? = some u → (vals l)[k * 3 + j]? = some u := by
    intro l
    induction l with
    | nil => intro k h; simp at h
    | cons x l ih =>
      intro k hk j u hu
      rw [vals_cons]
      cases k with
      | zero =>
        simp only [List.getElem?_cons_zero, Option.some.injEq] at hk
        subst hk
        rw [Nat.zero_mul, Nat.zero_add, List.getElem?_append_left (List.getElem?_eq_some_iff.1 hu).1]
        exact hu
      | succ k =>
        rw [List.getElem?_append_right (by simp; omega)]
        have := ih k (by simpa using hk) j u hu
        rw [← this]
        congr 1
        simp
        omega
  have hc := fun j u hu => h.cell _ rfl _ u (key l k hv j u hu)
  refine ⟨bb, o, rfl, ?_, ?_, ?_⟩
  · have := hc 0 _ rfl; simpa using this
  · have := hc 1 _ rfl; simpa [Nat.add_assoc] using this
  · have := hc 2 _ rfl; simpa [Nat.add_assoc] using this

theorem putVs_append (l m : List Va) : putVs (l ++ m) = putVs l ++ putVs m := by simp [putVs]
theorem putVs_one (v : Va) : putVs [v] = putV v := by simp [putVs]
theorem putVs_length {l : List Va} (h : ∀ v ∈ l, mayV v = true) (hi : ∀ v ∈ l, (Lit.int .i64 v.int).wf = true) : (putVs l).length ≤ 51 * l.length := by
  induction l with
  | nil => simp [putVs]
  | cons v l ih =>
    have h1 := putV_length (h v (by simp)) (fun _ => zigzag_lt' (hi v (by simp)))
    have h2 := ih (fun x hx => h x (by simp [hx])) (fun x hx => hi x (by simp [hx]))
    have e : putVs (v :: l) = putV v ++ putVs l := by simp [putVs]
    rw [e, List.length_append, List.length_cons]
    omega

end Go.Proofs.YtfgmbjdeimallaaGreatDoor
/- What is known of the bytes' layer. -/

namespace Go.Proofs.YtfgmbjdeimallaaGreatDoor
open Go.RowKit Go.Lib

theorem known_row : rowOk [⟨2, 5, ⟨#[]⟩⟩, ⟨0, 0, ⟨#[]⟩⟩] = true ∧ putRow [⟨2, 5, ⟨#[]⟩⟩, ⟨0, 0, ⟨#[]⟩⟩] = [2, 2, 10, 0] := by
  constructor
  · simp [rowOk, mayV]
  · have z5 : zigzag 5 = 10 := by decide
    simp only [putRow, putVs, putV, List.map_cons, List.map_nil, List.length_cons, List.length_nil, z5]
    rw [uvarint_small (by omega), uvarint_small (by omega)]
    rfl
theorem known_read : rowP [2] = ([], 0, 22) := by rfl
theorem known_sum : crc [49, 50, 51, 52, 53, 54, 55, 56, 57] = 3421780262 := by decide +kernel

theorem rb_marked (w : World) (l : List UInt8) (m : Nat × Nat) (hl : l.length ≤ maxLen) : Rb (w.alloc (.cells (bys l).toArray 5 m)) (some ⟨w.heap.size, 0, none⟩) l.length l := by
  refine ⟨by simp, Nat.le_refl _, hl, fun e => by simp at e, fun _ ad e => by cases e; rfl, ?_, bys_one l⟩
  intro ad e j u hj
  cases e
  have := cell_of_row (w.alloc (.cells (bys l).toArray 5 m)) w.heap.size (0 + j) (bys l).toArray 5 m (heap_alloc_new w _)
  rw [this, Nat.zero_add]
  simpa using hj

end Go.Proofs.YtfgmbjdeimallaaGreatDoor
