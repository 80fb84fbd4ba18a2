/- A node of a group: elected; stands. -/
import Derived.Test.YtdeaelbelcjhcaaDoorRaft26


namespace Go.Proofs.YtdeaelbelcjhcaaDoor
open Go.RowKit

def bls (l : List Bool) : List Value := l.map Value.bool
def yes (l : List Bool) : Nat := (l.filter fun b => b).length
theorem yes_take {l : List Bool} {k : Nat} {x : Bool} (h : l[k]? = some x) : yes (l.take (k + 1)) = yes (l.take k) + (if x then 1 else 0) := by
  obtain ⟨hl, rfl⟩ := List.getElem?_eq_some_iff.1 h
  unfold yes
  rw [List.take_succ_eq_append_getElem hl, List.filter_append, List.length_append]
  congr 1
  cases l[k] <;> simp
theorem yes_le (l : List Bool) : yes l ≤ l.length := List.length_filter_le _ _
theorem bls_cell {w : World} {vb : Nat} {l : List Bool} {k : Nat} {x : Bool} (hV : Blk w vb 4 (bls l).toArray) (h : l[k]? = some x) : w.cell? ⟨vb, k, none⟩ = some (.bool x) := by
  rw [hV.cell, List.getElem?_toArray]
  simp [bls, h]
theorem bls_set (l : List Bool) (k : Nat) (x : Bool) : (bls l).toArray.setIfInBounds k (.bool x) = (bls (l.set k x)).toArray := by
  rw [List.setIfInBounds_toArray]
  congr 1
  simp [bls, List.map_set]

/-- votes counted: a most or not -/
def Votes (w : World) (vb : Nat) (r : Rf) (l : List Bool) : Prop := Blk w vb 4 (bls l).toArray ∧ r.vs = (some ⟨vb, 0, none⟩, l.length, l.length)

set_option maxRecDepth 100000 in
set_option maxHeartbeats 8000000 in
theorem relected_no (b vb : Nat) (r : Rf) (l : List Bool) (w : World) (hB : Blk w b 63 r.cells) (hV : Votes w vb r l) (h7 : l.length ≤ 7) (hno : 2 * (yes l : Int) ≤ r.n) :
    Calls Tryd.prog 25 #[.pointer (some ⟨b, 0, none⟩)] w fun e w' => e = .returned (.bool false) ∧ w' = w := by
  obtain ⟨hV, hvs⟩ := hV
  have hc := hB.cell
  simp only [Rf.cells, hvs] at hc
  have hl := hB.lt
  have hlV := hV.lt
  go_enter Tryd.func25, Tryd.ntmps25
  go_wp2_with fail
  clear hc
  go_loopw [3, 11] (fun v3 v11 wr => ∃ k : Nat, v11 = .int .i64 (k : Int) ∧ k ≤ l.length ∧ v3 = .int .i64 ((yes (l.take k) : Nat) : Int) ∧ wr = w) (fun _ v _ => l.length - (intOf v).toNat)
  case atStart => exact ⟨0, rfl, by omega, by simp [yes], rfl⟩
  case round =>
    obtain ⟨k, rfl, hk, rfl, hw⟩ := hrel
    obtain rfl := hw.symm
    clear hw
    by_cases hlt : k < l.length
    · have n1 : (k : Int) < (l.length : Int) := by omega
      obtain ⟨x, hx⟩ : ∃ x, l[k]? = some x := ⟨_, List.getElem?_eq_getElem hlt⟩
      have hcell := bls_cell hV hx
      have ht := yes_take hx
      have hle := yes_le (l.take k)
      rw [List.length_take] at hle
      have q2 : IntKind.i64.wrap ((k : Int) + 1) = k + 1 := IntWalk.i64_in _ (by omega)
      have q3 : IntKind.i64.wrap (((yes (l.take k) : Nat) : Int) + 1) = ((yes (l.take k) : Nat) : Int) + 1 := IntWalk.i64_in _ (by omega)
      have HT := Lib.hid ht
      clear ht hx hle
      generalize yes (l.take k) = y at *
      cases x with
      | true =>
        go_wp2_with fail
        go_roundw
        case rel => exact ⟨k + 1, by simp, by omega, by rw [HT.out]; simp, trivial⟩
        case measure => simp [intOf]; omega
      | false =>
        go_wp2_with fail
        go_roundw
        case rel => exact ⟨k + 1, by simp, by omega, by rw [HT.out]; simp, trivial⟩
        case measure => simp [intOf]; omega
    · obtain rfl : k = l.length := by omega
      rw [List.take_length]
      have hle := yes_le l
      have HM := Lib.hid (rmost b r (yes l : Nat) w hB (by omega) (by omega))
      have hd : decide (r.n < 2 * ((yes l : Nat) : Int)) = false := by simp; omega
      have HD := Lib.hid hd
      clear hd hno
      go_wp2_with fail
      refine HM.out.mono ?_
      rintro e w' ⟨rfl, hw⟩
      obtain rfl := hw.symm
      clear hw HM
      rw [HD.out]
      go_wp2_with fail
      go_ret
      exact ⟨rfl, rfl⟩

set_option maxRecDepth 100000 in
set_option maxHeartbeats 8000000 in
theorem relected_yes (b vb id n : Nat) (r : Rf) (g : Lg) (l : List Bool) (w : World) (hB : Blk w b 63 r.cells) (hV : Votes w vb r l) (hl7 : l.length ≤ 7) (hyes : r.n < 2 * (yes l : Int)) (hL : LogAt w r.lg g) (hid : r.id = (id : Int)) (hn : r.n = (n : Int)) (hin : id < n) (h7 : n ≤ 7) (hf0 : r.fr = 0) (hms : r.ms = (none, 0, 0)) (hg0 : 0 ≤ g.base) (hg1 : g.last < 800000) (hgb : g.base ≤ r.cm) (hgc : r.cm ≤ g.last) :
    Calls Tryd.prog 25 #[.pointer (some ⟨b, 0, none⟩)] w fun e w' => ∃ pb N ao c ys, e = .returned (.bool true) ∧ w.heap.size ≤ pb ∧ w.heap.size ≤ N ∧ RC w' N b pb { r.ledN pb id n g with ms := (ao, (oth id n).length, c) } (g.snoc ⟨r.tm, 0, 0, 0, ⟨#[]⟩⟩) (ledPs id n g.last) ∧
      Ow w' N (ao, (oth id n).length, c) ys ∧ Fed (r.ledN pb id n g) (g.snoc ⟨r.tm, 0, 0, 0, ⟨#[]⟩⟩) (ledPs id n g.last) (oth id n) ys ∧ Keeps [b, r.lg] w w' := by
  have HL := Lib.hid (rleads b id n r g w hB hL hid hn hin h7 hf0 hms hg0 hg1 hgb hgc)
  clear hid hn hin h7 hf0 hms hg0 hg1 hgb hgc hL
  obtain ⟨hV, hvs⟩ := hV
  have hc := hB.cell
  simp only [Rf.cells, hvs] at hc
  have hl := hB.lt
  have hlV := hV.lt
  go_enter Tryd.func25, Tryd.ntmps25
  go_wp2_with fail
  clear hc
  go_loopw [3, 11] (fun v3 v11 wr => ∃ k : Nat, v11 = .int .i64 (k : Int) ∧ k ≤ l.length ∧ v3 = .int .i64 ((yes (l.take k) : Nat) : Int) ∧ wr = w) (fun _ v _ => l.length - (intOf v).toNat)
  case atStart => exact ⟨0, rfl, by omega, by simp [yes], rfl⟩
  case round =>
    obtain ⟨k, rfl, hk, rfl, hw⟩ := hrel
    obtain rfl := hw.symm
    clear hw
    by_cases hlt : k < l.length
    · have n1 : (k : Int) < (l.length : Int) := by omega
      obtain ⟨x, hx⟩ : ∃ x, l[k]? = some x := ⟨_, List.getElem?_eq_getElem hlt⟩
      have hcell := bls_cell hV hx
      have ht := yes_take hx
      have hle := yes_le (l.take k)
      rw [List.length_take] at hle
      have q2 : IntKind.i64.wrap ((k : Int) + 1) = k + 1 := IntWalk.i64_in _ (by omega)
      have q3 : IntKind.i64.wrap (((yes (l.take k) : Nat) : Int) + 1) = ((yes (l.take k) : Nat) : Int) + 1 := IntWalk.i64_in _ (by omega)
      have HT := Lib.hid ht
      clear ht hx hle
      generalize yes (l.take k) = y at *
      cases x with
      | true =>
        go_wp2_with fail
        go_roundw
        case rel => exact ⟨k + 1, by simp, by omega, by rw [HT.out]; simp, trivial⟩
        case measure => simp [intOf]; omega
      | false =>
        go_wp2_with fail
        go_roundw
        case rel => exact ⟨k + 1, by simp, by omega, by rw [HT.out]; simp, trivial⟩
        case measure => simp [intOf]; omega
    · obtain rfl : k = l.length := by omega
      rw [List.take_length]
      have hle := yes_le l
      have HM := Lib.hid (rmost b r (yes l : Nat) w hB (by omega) (by omega))
      have hd : decide (r.n < 2 * ((yes l : Nat) : Int)) = true := by simpa using hyes
      have HD := Lib.hid hd
      clear hd hyes
      go_wp2_with fail
      refine HM.out.mono ?_
      rintro e w' ⟨rfl, hw⟩
      obtain rfl := hw.symm
      clear hw HM
      rw [HD.out]
      go_wp2_with fail
      refine HL.out.mono ?_
      rintro e w2 ⟨pb, N, ao, c, ys, rfl, a1, a2, a3, a4, a5, a6⟩
      clear HL
      go_wp2_with fail
      go_ret
      exact ⟨pb, N, ao, c, ys, rfl, a1, a2, a3, a4, a5, a6⟩
end Go.Proofs.YtdeaelbelcjhcaaDoor
