/- The wal as plain data: what its frames tell, played one behind the other. -/
import Derived.Test.YtfgmbjdeimallaaGreatDoorWnZ
import Derived.Test.YtfgmbjdeimallaaGreatDoorWmZ
namespace Go.Proofs.YtfgmbjdeimallaaGreatDoor
open Go.RowKit Go.Lib

/-- what a frame tells -/
inductive Ev where
  | hard (t : Nat) (v : Int)
  | ent (e : Ent)
  | cut (n : Nat)
  | drop (i t : Nat)
/-- what a wal tells -/
structure Ws where
  term : Nat
  vote : Int
  base : Nat
  bt : Nat
  es : List Ent
abbrev Ws.nil : Ws := ⟨0, -1, 0, 0, []⟩
def Ws.last (s : Ws) : Nat := s.base + s.es.length
def Ws.ev (s : Ws) : Ev → Ws
  | .hard t v => { s with term := t, vote := v }
  | .ent e => { s with es := s.es ++ [e] }
  | .cut n => { s with es := s.es.take (n - s.base - 1) }
  | .drop i t => { s with base := i, bt := t, es := s.es.drop (i - s.base) }
def Ent.May (e : Ent) : Prop := entOk e = true ∧ e.term < 18446744073709551616 ∧ e.client < 18446744073709551616 ∧ e.seq < 18446744073709551616
def Ev.May (s : Ws) : Ev → Prop
  | .hard t v => t < 18446744073709551616 ∧ -1 ≤ v ∧ v ≤ 1000
  | .ent e => e.May
  | .cut n => s.base < n ∧ n ≤ s.last + 1
  | .drop i t => s.base ≤ i ∧ i ≤ 4611686018427387904 ∧ t < 18446744073709551616
/-- an event's bytes, ahead of the frame -/
def Ev.bytes : Ev → List UInt8
  | .hard t v => 1 :: (uvarint t ++ uvarint (v + 1).toNat)
  | .ent e => 2 :: putE e
  | .cut n => 3 :: uvarint n
  | .drop i t => 4 :: (uvarint i ++ uvarint t)
def Ws.plays (s : Ws) (l : List Ev) : Ws := l.foldl Ws.ev s
def Ws.Mays : Ws → List Ev → Prop
  | _, [] => True
  | s, e :: l => e.May s ∧ Ws.Mays (s.ev e) l
/-- a file of such frames -/
def fileOf (l : List Ev) : List UInt8 := (l.map fun e => frame e.bytes).flatten
structure Ws.Ok (s : Ws) : Prop where
  term : s.term < 18446744073709551616
  vote : -1 ≤ s.vote ∧ s.vote ≤ 1000
  base : s.base ≤ 4611686018427387904
  bt : s.bt < 18446744073709551616
  es : ∀ e ∈ s.es, e.May

theorem Ws.Ok.nil : Ws.nil.Ok := ⟨by decide, by decide, by decide, by decide, by simp⟩
theorem Ws.Ok.ev {s : Ws} (h : s.Ok) {e : Ev} (he : e.May s) : (s.ev e).Ok := by
  cases e with
  | hard t v => exact ⟨he.1, he.2, h.base, h.bt, h.es⟩
  | ent e =>
    refine ⟨h.term, h.vote, h.base, h.bt, fun x hx => ?_⟩
    rcases List.mem_append.1 hx with hx | hx
    · exact h.es x hx
    · simp at hx; subst hx; exact he
  | cut n => exact ⟨h.term, h.vote, h.base, h.bt, fun x hx => h.es x (List.mem_of_mem_take hx)⟩
  | drop i t => exact ⟨h.term, h.vote, he.2.1, he.2.2, fun x hx => h.es x (List.mem_of_mem_drop hx)⟩
theorem Ws.plays_append (s : Ws) (a b : List Ev) : s.plays (a ++ b) = (s.plays a).plays b := List.foldl_append ..
theorem Ws.plays_cons (s : Ws) (e : Ev) (b : List Ev) : s.plays (e :: b) = (s.ev e).plays b := rfl
theorem Ws.mays_append : ∀ (s : Ws) (a b : List Ev), s.Mays (a ++ b) ↔ s.Mays a ∧ (s.plays a).Mays b
  | s, [], b => by simp [Ws.Mays, Ws.plays]
  | s, e :: a, b => by
    have := Ws.mays_append (s.ev e) a b
    simp only [List.cons_append, Ws.Mays, Ws.plays_cons, this]
    exact and_assoc.symm
theorem Ws.ok_plays : ∀ (l : List Ev) (s : Ws), s.Ok → s.Mays l → (s.plays l).Ok
  | [], _, h, _ => h
  | _ :: l, s, h, hm => Ws.ok_plays l (s.ev _) (h.ev hm.1) hm.2
theorem Ws.Ok.plays {s : Ws} {l : List Ev} (h : s.Ok) (hm : s.Mays l) : (s.plays l).Ok := Ws.ok_plays l s h hm
theorem fileOf_append (a b : List Ev) : fileOf (a ++ b) = fileOf a ++ fileOf b := by simp [fileOf]
theorem fileOf_cons (e : Ev) (b : List Ev) : fileOf (e :: b) = frame e.bytes ++ fileOf b := by simp [fileOf]
theorem fileOf_nil : fileOf [] = [] := rfl

/-- how many bytes an event has -/
theorem putE_length {e : Ent} (h : e.May) : (putE e).length ≤ e.sql.size + 33 := by
  obtain ⟨h0, h1, h2, h3⟩ := h
  have a1 := uvarint_length64 h1
  have a2 := uvarint_length64 h2
  have a3 := uvarint_length64 h3
  have hs : e.sql.size ≤ 2000 := by
    simp only [entOk, Bool.and_eq_true, decide_eq_true_eq] at h0
    exact h0.1
  have a4 : (uvarint e.sql.size).length ≤ 2 := by
    rcases Nat.lt_or_ge e.sql.size 128 with hl | hl
    · rw [uvarint_small hl]; simp
    · rw [uvarint_big (by omega), List.length_cons, uvarint_small (by omega)]; simp
  unfold putE
  split
  · simp only [List.length_append, List.length_cons, List.length_nil, size_toList]; omega
  · simp only [List.length_append, List.length_cons, List.length_nil]; omega
theorem Ev.bytes_length {s : Ws} (hs : s.Ok) (hl : s.es.length ≤ 4611686018427387904) {e : Ev} (h : e.May s) : (match e with | .ent x => e.bytes.length ≤ x.sql.size + 34 ∧ x.sql.size ≤ 2000 | .hard .. => e.bytes.length ≤ 13 | .cut .. => e.bytes.length ≤ 11 | .drop .. => e.bytes.length ≤ 21) := by
  cases e with
  | hard t v =>
    have a1 := uvarint_length64 h.1
    have a2 : (uvarint (v + 1).toNat).length ≤ 2 := by
      rcases Nat.lt_or_ge (v + 1).toNat 128 with hl | hl
      · rw [uvarint_small hl]; simp
      · rw [uvarint_big (by omega), List.length_cons, uvarint_small (by have := h.2; omega)]; simp
    simp [Ev.bytes]; omega
  | ent x =>
    have := putE_length h
    have h0 := h.1
    simp only [entOk, Bool.and_eq_true, decide_eq_true_eq] at h0
    simp only [Ev.bytes, List.length_cons]
    omega
  | cut n =>
    have hn : n < 18446744073709551616 := by have := h.2; have := hs.base; unfold Ws.last at *; omega
    have a1 := uvarint_length64 hn
    simp [Ev.bytes]; omega
  | drop i t =>
    have a1 := uvarint_length64 (x := i) (by have := h.2.1; omega)
    have a2 := uvarint_length64 h.2.2
    simp [Ev.bytes]; omega
theorem Ev.bytes_most {s : Ws} (hs : s.Ok) (hl : s.es.length ≤ 4611686018427387904) {e : Ev} (h : e.May s) : e.bytes.length ≤ 2034 := by
  have := Ev.bytes_length hs hl h
  cases e <;> simp only at this <;> omega

/-- a proper first part of a frame, or nothing -/
def Tail (t : List UInt8) : Prop := ∃ p : List UInt8, p.length ≤ 262144 ∧ t.length < (frame p).length ∧ t = (frame p).take t.length
theorem Tail.nil : Tail [] := ⟨[], by simp, by simp [frame_length], by simp⟩
theorem Tail.unfr {t : List UInt8} (h : Tail t) : unfr t = ([], 0, 22) := by
  obtain ⟨p, hp, hl, ht⟩ := h
  rw [frame_length] at hl
  unfold Go.Proofs.YtfgmbjdeimallaaGreatDoor.unfr
  by_cases h4 : t.length < 4
  · rw [if_pos h4]
  · rw [if_neg h4]
    have hv : val4 t = p.length := by
      have e1 : t = num4 p.length ++ t.drop 4 := by
        have := List.take_append_drop 4 t
        rw [← this]
        congr 1
        · rw [ht, List.take_take, Nat.min_eq_left (by omega), frame_take4]
        · simp
      rw [e1]
      exact val4_num4 p.length (by omega) _
    rw [hv, if_neg (by omega), if_pos (by omega)]

/-- where a file is cut off -/
theorem fileOf_take : ∀ (l : List Ev) (n : Nat), (∀ e ∈ l, e.bytes.length ≤ 262144) → n ≤ (fileOf l).length → ∃ j t, j ≤ l.length ∧ (fileOf l).take n = fileOf (l.take j) ++ t ∧ Tail t ∧ ∀ k, k ≤ l.length → (fileOf (l.take k)).length ≤ n → k ≤ j
  | [], n, _, hn => ⟨0, [], by simp, by simp [fileOf], Tail.nil, fun k hk _ => by simpa using hk⟩
  | e :: l, n, hl, hn => by
    rcases Nat.lt_or_ge n (frame e.bytes).length with h | h
    · refine ⟨0, (frame e.bytes).take n, by simp, ?_, ⟨e.bytes, hl e (.head _), by simp; omega, by simp⟩, fun k hk hkl => ?_⟩
      · rw [fileOf_cons, List.take_append_of_le_length (by omega)]
        simp [fileOf]
      · cases k with
        | zero => simp
        | succ k =>
          rw [List.take_succ_cons, fileOf_cons, List.length_append] at hkl
          omega
    · rw [fileOf_cons, List.length_append] at hn
      obtain ⟨j, t, h1, h2, h3, h4⟩ := fileOf_take l (n - (frame e.bytes).length) (fun x hx => hl x (.tail _ hx)) (by omega)
      refine ⟨j + 1, t, by simpa using h1, ?_, h3, fun k hk hkl => ?_⟩
      · rw [fileOf_cons, List.take_append, List.take_of_length_le h, h2, List.take_succ_cons, fileOf_cons, List.append_assoc]
      · cases k with
        | zero => simp
        | succ k =>
          rw [List.take_succ_cons, fileOf_cons, List.length_append] at hkl
          have := h4 k (by simpa using hk) (by omega)
          omega

/-- the file written anew -/
def anewEvs (s : Ws) : List Ev := .hard s.term s.vote :: .drop s.base s.bt :: s.es.map .ent
theorem plays_ents : ∀ (l : List Ent) (s : Ws), s.plays (l.map .ent) = { s with es := s.es ++ l }
  | [], s => by simp [Ws.plays]
  | e :: l, s => by
    rw [List.map_cons, Ws.plays_cons, plays_ents l]
    simp [Ws.ev]
theorem mays_ents : ∀ (l : List Ent) (s : Ws), (∀ e ∈ l, e.May) → s.Mays (l.map .ent)
  | [], _, _ => trivial
  | e :: l, _, h => ⟨h e (.head _), mays_ents l _ (fun x hx => h x (.tail _ hx))⟩
theorem plays_anew (s : Ws) : Ws.nil.plays (anewEvs s) = s := by
  unfold anewEvs
  rw [Ws.plays_cons, Ws.plays_cons, plays_ents]
  simp [Ws.ev]
theorem mays_anew {s : Ws} (h : s.Ok) : Ws.nil.Mays (anewEvs s) := by
  refine ⟨⟨h.term, h.vote⟩, ⟨by simp [Ws.ev], h.base, h.bt⟩, mays_ents _ _ h.es⟩
/-- all events of a row have few bytes -/
theorem mays_small : ∀ (l : List Ev) (s : Ws), s.Ok → s.es.length + l.length ≤ 4611686018427387904 → s.Mays l → ∀ e ∈ l, e.bytes.length ≤ 2034
  | [], _, _, _, _, _, h => by cases h
  | e :: l, s, hs, hl, hm, x, hx => by
    rcases List.mem_cons.1 hx with rfl | hx
    · exact Ev.bytes_most hs (by omega) hm.1
    · refine mays_small l (s.ev e) (hs.ev hm.1) ?_ hm.2 x hx
      rw [List.length_cons] at hl
      have : (s.ev e).es.length ≤ s.es.length + 1 := by
        cases e <;> simp [Ws.ev] <;> omega
      omega
end Go.Proofs.YtfgmbjdeimallaaGreatDoor
