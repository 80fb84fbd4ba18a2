/- Messages as plain data; flag, in, uints. -/
import Derived.Test.YtllcidpmdmacjaaDoorWz

namespace Go.Proofs.YtllcidpmdmacjaaDoor
open Go.RowKit Go.Lib

set_option maxRecDepth 100000 in
theorem flag_any (q : Bool) (w : World) : Calls Tryd.prog 26 #[.bool q] w fun e w' => e = .returned (.int .u8 (if q then 1 else 0)) ∧ w' = w := by
  cases q with
  | true =>
    go_enter Tryd.func26, Tryd.ntmps26
    go_wp2_with fail
    go_ret
    exact ⟨rfl, rfl⟩
  | false =>
    go_enter Tryd.func26, Tryd.ntmps26
    go_wp2_with fail
    go_ret
    exact ⟨rfl, rfl⟩

def inB (n a b : Int) : Bool := decide (a ≤ n) && decide (n ≤ b)
set_option maxRecDepth 100000 in
theorem in_any (n a b : Int) (w : World) : Calls Tryd.prog 46 #[.int .i64 n, .int .i64 a, .int .i64 b] w fun e w' => e = .returned (.bool (inB n a b)) ∧ w' = w := by
  unfold inB
  by_cases h1 : a ≤ n
  · by_cases h2 : n ≤ b
    · rw [decide_eq_true h1, decide_eq_true h2]
      go_enter Tryd.func46, Tryd.ntmps46
      go_wp2_with fail
      go_ret
      exact ⟨rfl, rfl⟩
    · rw [decide_eq_true h1, decide_eq_false h2]
      go_enter Tryd.func46, Tryd.ntmps46
      go_wp2_with fail
      go_ret
      exact ⟨rfl, rfl⟩
  · rw [decide_eq_false h1]
    go_enter Tryd.func46, Tryd.ntmps46
    go_wp2_with fail
    go_ret
    exact ⟨rfl, rfl⟩

/-- numbers as bytes -/
def us (l : List Nat) : List UInt8 := (l.map uvarint).flatten
theorem us_append (l m : List Nat) : us (l ++ m) = us l ++ us m := by simp [us]
theorem us_one (n : Nat) : us [n] = uvarint n := by simp [us]
theorem us_len (l : List Nat) (h : ∀ n ∈ l, n < 18446744073709551616) : (us l).length ≤ 10 * l.length := by
  induction l with
  | nil => simp [us]
  | cons n l ih =>
    have h1 := uvarint_length64 (h n List.mem_cons_self)
    have h2 := ih (fun x hx => h x (List.mem_cons_of_mem n hx))
    have e : us (n :: l) = uvarint n ++ us l := by simp [us]
    rw [e, List.length_append, List.length_cons]
    omega
abbrev nums (l : List Nat) : Array Value := (l.map fun n => Value.int .u64 (n : Nat)).toArray

set_option maxRecDepth 100000 in
set_option maxHeartbeats 4000000 in
theorem uints_any (ao : Option Addr) (c : Nat) (out : List UInt8) (lb N : Nat) (l : List Nat) (w : World) (hO : Own w N ao c out) (hB : Blk w lb 27 (nums l)) (hl : ∀ n ∈ l, n < 18446744073709551616) (hln : l.length ≤ 100) (hol : out.length ≤ 1000000000) (hN : N ≤ w.heap.size) :
    Calls Tryd.prog 25 #[.slice ao out.length c, .slice (some ⟨lb, 0, none⟩) l.length l.length] w fun e w' => ∃ ao' c', e = .returned (.slice ao' (out ++ us l).length c') ∧ Own w' N ao' c' (out ++ us l) ∧ Keeps (blks ao) w w' := by
  obtain ⟨i, z, hi, hz, hsz, hby, hzc⟩ := infoB
  have hul := us_len l hl
  have HL := Lib.hid hl
  clear hl
  go_enter Tryd.func25, Tryd.ntmps25
  go_wp2_with fail
  go_loopw [0, 9] (fun v j wr => ∃ (k : Nat) (ao' : Option Addr) (c' : Nat) (o : List UInt8), v = .slice ao' o.length c' ∧ j = .int .i64 (k : Int) ∧ k ≤ l.length ∧ o = out ++ us (l.take k) ∧ Own wr N ao' c' o ∧ Blk wr lb 27 (nums l) ∧ Keeps (blks ao) w wr ∧ (∀ x ∈ blks ao', x ∈ blks ao ∨ w.heap.size ≤ x)) (fun _ j _ => l.length - (intOf j).toNat)
  case atStart => exact ⟨0, ao, c, out, rfl, rfl, by omega, by simp [us], hO, hB, Keeps.refl _ _, fun x hx => .inl hx⟩
  case round =>
    obtain ⟨k, ao', c', o, rfl, rfl, hk, ho, hOr, hBr, hkr, hsub⟩ := hrel
    clear hO hB
    by_cases hkl : k < l.length
    rotate_left
    · have n1 : ¬ ((k : Int) < (l.length : Int)) := by omega
      have ho2 : o = out ++ us l := by rw [ho, List.take_of_length_le (by omega)]
      subst ho2
      clear ho
      go_wp2_with fail
      go_ret
      exact ⟨ao', c', rfl, hOr, hkr⟩
    have n1 : (k : Int) < (l.length : Int) := by omega
    have s1 : IntKind.i64.wrap ((k : Int) + 1) = k + 1 := IntWalk.i64_in _ (by omega)
    have hv := List.getElem?_eq_getElem hkl
    have hc0 : wr.cell? ⟨lb, k, none⟩ = some (.int .u64 (l[k] : Nat)) := by
      rw [hBr.cell]
      simp [hkl]
    have hn := HL.out l[k] (List.getElem_mem hkl)
    have ho2 : o ++ uvarint l[k] = out ++ us (l.take (k + 1)) := by
      rw [ho, List.take_succ_eq_append_getElem hkl, us_append, us_one, List.append_assoc]
    have hlen : (out ++ us (l.take (k + 1))).length ≤ 1000001000 := by
      have h1 := us_len (l.take (k + 1)) (fun x hx => HL.out x (List.mem_of_mem_take hx))
      rw [List.length_append]
      have : (l.take (k + 1)).length ≤ l.length := by rw [List.length_take]; omega
      omega
    have hul2 := uvarint_length64 hn
    generalize l[k] = n at *
    have HO := Lib.hid ho2
    rw [← ho2, List.length_append] at hlen
    have hlb := hBr.lt
    clear ho ho2 hv
    go_wp2_with fail
    refine (putUint n wr hn).mono ?_
    rintro e w1 ⟨a1, c1, rfl, hO1, hk1⟩
    have hO2 := hOr.keep0 hk1
    have hB2 := hBr.keep hk1 (by simp)
    go_wp2_with (at_builtin; refine wpList_append_by _ rfl _ _ 34 34 rfl N 5 i z 1 1 Tryd.underlying34 hi hz hsz hby hzc ao' _ c' _ rfl hO2 _ rfl (uvarint n).length _ (hO1.rb.src Tryd.underlying34) (by unfold maxLen; omega) (by omega) (by have h1 := hkr.size; have h2 := hk1.size; omega) ?_; intro a3 c3 w3 hO3 hk3 hb3)
    have hO4 := Own.of hO3 (bys_append o (uvarint n)).symm
    have hB3 := hB2.keep hk3 (fun hx => ownsRow_ne hO2 hB2 (by decide) lb hx rfl)
    have hk03 := (hkr.trans hk1.of_nil).step hk3 hsub
    have hsub3 : ∀ x ∈ blks a3, x ∈ blks ao ∨ w.heap.size ≤ x := by
      intro x hx
      cases a3 with
      | none => simp at hx
      | some ad =>
        simp only [blks, List.mem_singleton] at hx
        subst hx
        rcases hb3 ad rfl with h | h
        · exact hsub _ h
        · right
          have h1 := hkr.size
          have h2 := hk1.size
          omega
    clear hOr hBr hkr hsub hO2 hB2 hO3 hk3 hb3 hO1 hk1
    go_roundw
    case rel => exact ⟨k + 1, a3, c3, o ++ uvarint n, by rw [List.length_append], by simp, by omega, HO.out, hO4, hB3, hk03, hsub3⟩
    case measure => simp [intOf]; omega
end Go.Proofs.YtllcidpmdmacjaaDoor
