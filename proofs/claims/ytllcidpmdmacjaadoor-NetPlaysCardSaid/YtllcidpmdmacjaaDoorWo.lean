/- Rows as bytes: IndexByte, May. -/
import Derived.Test.YtllcidpmdmacjaaDoorWv3
import Derived.Lib.Bytealg

namespace Go.Proofs.YtllcidpmdmacjaaDoor
open Go.RowKit Go.Lib

theorem indexByte_neg (l : List UInt8) (c : UInt8) : (Lib.indexByte l c < 0 ↔ c ∉ l) ∧ -1 ≤ Lib.indexByte l c := by
  induction l with
  | nil => simp [Lib.indexByte]
  | cons b l ih =>
    unfold Lib.indexByte
    obtain ⟨h1, h2⟩ := ih
    by_cases hb : b = c
    · subst hb
      simp
    · have hb' : (b == c) = false := by simpa using hb
      rw [hb']
      simp only [Bool.false_eq_true, if_false, List.mem_cons, not_or]
      by_cases hi : Lib.indexByte l c = -1
      · have hx : c ∉ l := h1.1 (by omega)
        simp [hi, hx, Ne.symm hb]
      · have hx : ¬ (c ∉ l) := fun h => by have := h1.2 h; omega
        have hii : (Lib.indexByte l c == -1) = false := by simpa using hi
        rw [hii]
        simp only [Bool.false_eq_true, if_false]
        refine ⟨⟨fun h => by omega, fun h => absurd h.2 hx⟩, by omega⟩

set_option maxRecDepth 100000 in
theorem index_byte (s : ByteArray) (w : World) :
    Calls Tryd.prog 57 #[.string s, .int .u8 0] w fun e w' => e = .returned (.int .i64 (Lib.indexByte s.data.toList 0)) ∧ w' = w := by
  have h1 : Calls Tryd.prog 60 #[.string s, .int .u8 0] w fun e w' => e = .returned (.int .i64 (Lib.indexByte s.data.toList 0)) ∧ w' = w := by
    go_enter Tryd.func60, Tryd.ntmps60
    go_wp2
    rw [run_callFunc_extern Tryd.func63 (by kernel_rfl) (by kernel_rfl) (by kernel_rfl) (e := Extern.BytealgIndexByte.indexByte) (by kernel_rfl), Lib.run_indexByteString]
    simp only [Result.andThen]
    rw [Oper.upon_value]
    go_wp2
    go_ret
    exact ⟨rfl, rfl⟩
  go_enter Tryd.func57, Tryd.ntmps57
  go_wp2_with fail
  refine h1.mono ?_
  rintro e w' ⟨rfl, rfl⟩
  go_wp2_with fail
  go_ret
  exact ⟨rfl, rfl⟩

/-- may a value be? -/
def mayV (v : Va) : Bool :=
  if v.kind = 0 then decide (v.int = 0) && v.text.toList.isEmpty else
  if v.kind = 1 then (decide (v.int = 0) || decide (v.int = 1)) && v.text.toList.isEmpty else
  if v.kind = 2 then v.text.toList.isEmpty else
  if v.kind = 3 then decide (v.int = 0) && decide (v.text.size ≤ 40) && decide ((0 : UInt8) ∉ v.text.data.toList) else false

set_option maxRecDepth 100000 in
set_option maxHeartbeats 1000000 in
theorem may_any (v : Va) (w : World) :
    Calls Tryd.prog 48 #[.agg v.cells] w fun e w' => e = .returned (.bool (mayV v)) ∧ Keeps [] w w' := by
  obtain ⟨k, n, s⟩ := v
  generalize hq : mayV ⟨k, n, s⟩ = q
  unfold mayV at hq
  have hk0 := (Keeps.refl [] w).alloc (.cells (Va.cells ⟨k, n, s⟩) 116)
  try simp only at hq
  by_cases h0 : k = 0
  · rw [if_pos h0] at hq
    subst h0
    by_cases hn : n = 0
    · subst hn
      go_enter Tryd.func48, Tryd.ntmps48
      go_wp2_with fail
      go_ret
      exact ⟨by rw [← hq]; simp, hk0⟩
    · have n1 : (n == 0) = false := by simpa using hn
      have HQ := Lib.hid hq
      have HN := Lib.hid hn
      clear hq hn
      go_enter Tryd.func48, Tryd.ntmps48
      go_wp2_with fail
      go_ret
      exact ⟨by rw [← HQ.out]; simp [HN.out], hk0⟩
  by_cases h1 : k = 1
  · rw [if_neg h0, if_pos h1] at hq
    subst h1
    by_cases hn : n = 0
    · subst hn
      go_enter Tryd.func48, Tryd.ntmps48
      go_wp2_with fail
      go_ret
      exact ⟨by rw [← hq]; simp, hk0⟩
    by_cases hn1 : n = 1
    · subst hn1
      go_enter Tryd.func48, Tryd.ntmps48
      go_wp2_with fail
      go_ret
      exact ⟨by rw [← hq]; simp, hk0⟩
    · have n1 : (n == 0) = false := by simpa using hn
      have n2 : (n == 1) = false := by simpa using hn1
      have HQ := Lib.hid hq
      have HN := Lib.hid hn
      have HM := Lib.hid hn1
      clear hq hn hn1
      go_enter Tryd.func48, Tryd.ntmps48
      go_wp2_with fail
      go_ret
      exact ⟨by rw [← HQ.out]; simp [HN.out, HM.out], hk0⟩
  by_cases h2 : k = 2
  · rw [if_neg h0, if_neg h1, if_pos h2] at hq
    subst h2
    go_enter Tryd.func48, Tryd.ntmps48
    go_wp2_with fail
    go_ret
    exact ⟨by rw [← hq]; rfl, hk0⟩
  by_cases h3 : k = 3
  · rw [if_neg h0, if_neg h1, if_neg h2, if_pos h3] at hq
    subst h3
    clear h0 h1 h2
    by_cases hn : n = 0
    · subst hn
      by_cases hs : s.size ≤ 40
      · have HQ := Lib.hid hq
        clear hq
        have n3 : (s.size : Int) ≤ 40 := by omega
        go_enter Tryd.func48, Tryd.ntmps48
        go_wp2_with fail
        refine (index_byte s _).mono ?_
        rintro e w' ⟨rfl, rfl⟩
        go_wp2_with fail
        go_ret
        have hz := (indexByte_neg s.data.toList 0).1
        exact ⟨by rw [← HQ.out]; simp [hs, hz], hk0⟩
      · have HQ := Lib.hid hq
        have HS := Lib.hid hs
        clear hq hs
        have n3 : ¬ ((s.size : Int) ≤ 40) := by have := HS.out; omega
        go_enter Tryd.func48, Tryd.ntmps48
        go_wp2_with fail
        go_ret
        exact ⟨by rw [← HQ.out]; simp [HS.out], hk0⟩
    · have n1 : (n == 0) = false := by simpa using hn
      have HQ := Lib.hid hq
      have HN := Lib.hid hn
      clear hq hn
      go_enter Tryd.func48, Tryd.ntmps48
      go_wp2_with fail
      go_ret
      exact ⟨by rw [← HQ.out]; simp [HN.out], hk0⟩
  · rw [if_neg h0, if_neg h1, if_neg h2, if_neg h3] at hq
    have n0 : (k == 0) = false := by simpa using h0
    have n1 : (k == 1) = false := by simpa using h1
    have n2 : (k == 2) = false := by simpa using h2
    have n3 : (k == 3) = false := by simpa using h3
    go_enter Tryd.func48, Tryd.ntmps48
    have HQ := Lib.hid hq
    clear h0 h1 h2 h3 hq
    go_wp2_with fail
    go_ret
    exact ⟨by rw [← HQ.out]; rfl, hk0⟩

/-- a value's bytes -/
def putV (v : Va) : List UInt8 := (UInt8.ofNat v.kind.toNat) ::
  (if v.kind = 1 then [UInt8.ofNat v.int.toNat] else if v.kind = 2 then uvarint (zigzag v.int) else if v.kind = 3 then uvarint v.text.size ++ v.text.data.toList else [])
def putVs (l : List Va) : List UInt8 := (l.map putV).flatten
/-- a row's bytes, if it may be -/
def rowOk (l : List Va) : Bool := decide (l.length ≤ 64) && l.all mayV
def putRow (l : List Va) : List UInt8 := uvarint l.length ++ putVs l

theorem mayV_kind {v : Va} (h : mayV v = true) : v.kind = 0 ∨ v.kind = 1 ∨ v.kind = 2 ∨ v.kind = 3 := by
  unfold mayV at h
  by_cases h0 : v.kind = 0
  · exact .inl h0
  by_cases h1 : v.kind = 1
  · exact .inr (.inl h1)
  by_cases h2 : v.kind = 2
  · exact .inr (.inr (.inl h2))
  by_cases h3 : v.kind = 3
  · exact .inr (.inr (.inr h3))
  rw [if_neg h0, if_neg h1, if_neg h2, if_neg h3] at h
  cases h
theorem mayV_bool {v : Va} (h : mayV v = true) (h1 : v.kind = 1) : v.int = 0 ∨ v.int = 1 := by
  unfold mayV at h
  rw [if_neg (by omega), if_pos h1] at h
  simp at h
  exact h.1
theorem mayV_text {v : Va} (h : mayV v = true) (h1 : v.kind = 3) : v.int = 0 ∧ v.text.size ≤ 40 ∧ (0 : UInt8) ∉ v.text.data.toList := by
  unfold mayV at h
  rw [if_neg (by omega), if_neg (by omega), if_neg (by omega), if_pos h1] at h
  simpa [and_assoc] using h
theorem putV_length {v : Va} (h : mayV v = true) (hi : v.kind = 2 → zigzag v.int < 18446744073709551616) : (putV v).length ≤ 51 := by
  unfold putV
  by_cases h1 : v.kind = 1
  · rw [if_pos h1]; simp
  by_cases h2 : v.kind = 2
  · rw [if_neg h1, if_pos h2]
    have := uvarint_length64 (hi h2)
    simp only [List.length_cons]
    omega
  by_cases h3 : v.kind = 3
  · rw [if_neg h1, if_neg h2, if_pos h3]
    have ht := (mayV_text h h3).2.1
    have := uvarint_length64 (x := v.text.size) (by omega)
    have hs : v.text.data.toList.length = v.text.size := by rw [Array.length_toList]; rfl
    simp only [List.length_cons, List.length_append]
    omega
  rw [if_neg h1, if_neg h2, if_neg h3]; simp
end Go.Proofs.YtllcidpmdmacjaaDoor
