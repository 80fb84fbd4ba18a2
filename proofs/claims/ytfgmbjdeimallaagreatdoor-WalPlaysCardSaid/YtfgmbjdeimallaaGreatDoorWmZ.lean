/- Plain laws: what is written is read again, whatever stands behind; a proper beginning is told as short. -/
import Derived.Test.YtfgmbjdeimallaaGreatDoorWvZ
import Derived.Test.YtfgmbjdeimallaaGreatDoorWe
namespace Go.Proofs.YtfgmbjdeimallaaGreatDoor
open Go.RowKit Go.Lib

/-- a parser reads e as x, whatever stands behind; of a proper beginning of e it tells that it is short -/
structure Fits {α : Type} (p : St → α × St) (e : List UInt8) (x : α) : Prop where
  whole : ∀ rest n, p ⟨e ++ rest, n, 0⟩ = (x, ⟨rest, n + e.length, 0⟩)
  part : ∀ pre suf n, e = pre ++ suf → suf ≠ [] → (p ⟨pre, n, 0⟩).2.f = 22
/-- a parser tells nothing new behind a fault -/
def Stuck {α : Type} (p : St → α × St) : Prop := ∀ s, s.f ≠ 0 → (p s).2.f = s.f

theorem fail_stuck (s : St) (c : Nat) (h : s.f ≠ 0) : (s.fail c).f = s.f := by unfold St.fail; rw [if_neg h]
theorem take_stuck (s : St) (k c : Nat) (h : s.f ≠ 0) : (s.take k c).f = s.f := by unfold St.take; rw [if_neg (fun e => h e.1)]; exact fail_stuck s c h
theorem byte_stuck : Stuck St.byte := by
  intro s h
  unfold St.byte
  split
  · exact fail_stuck s _ h
  · rw [if_neg h]
theorem small_stuck (m : Nat) : Stuck (St.small · m) := by
  intro s h
  show (s.small m).2.f = s.f
  unfold St.small
  split
  · exact byte_stuck s h
  · split
    · rw [byte_stuck _ (by rw [fail_stuck s _ h]; exact h), fail_stuck s _ h]
    · exact byte_stuck s h
theorem uint_stuck : Stuck St.uint := by
  intro s h
  unfold St.uint
  rw [if_neg (fun e => h e.1)]
  exact fail_stuck s _ h
theorem int_stuck : Stuck St.int := by
  intro s h
  unfold St.int
  rw [if_neg (fun e => h e.1)]
  exact fail_stuck s _ h
theorem bytes_stuck (n : Nat) : Stuck (St.bytes · n) := by
  intro s h
  show (s.bytes n).2.f = s.f
  unfold St.bytes
  split
  · exact fail_stuck s _ h
  · first | rfl | rw [if_neg h]

/-- one parser behind another -/
def St.seq {α β γ : Type} (p : St → α × St) (q : α → St → β × St) (f : α → β → γ) (s : St) : γ × St := (f (p s).1 (q (p s).1 (p s).2).1, (q (p s).1 (p s).2).2)
theorem Stuck.seq {α β γ : Type} {p : St → α × St} {q : α → St → β × St} (f : α → β → γ) (hp : Stuck p) (hq : ∀ x, Stuck (q x)) : Stuck (St.seq p q f) := by
  intro s h
  show ((q (p s).1 (p s).2).2).f = s.f
  rw [hq _ _ (by rw [hp s h]; exact h), hp s h]
theorem Fits.seq {α β γ : Type} {p : St → α × St} {q : α → St → β × St} (f : α → β → γ) {e e' : List UInt8} {x : α} {y : β} (hp : Fits p e x) (hq : Fits (q x) e' y) (hs : ∀ x, Stuck (q x)) : Fits (St.seq p q f) (e ++ e') (f x y) := by
  refine ⟨?_, ?_⟩
  · intro rest n
    have h1 := hp.whole (e' ++ rest) n
    have h2 := hq.whole rest (n + e.length)
    unfold St.seq
    rw [List.append_assoc, h1]
    simp only [h2, List.length_append, Nat.add_assoc]
  · intro pre suf n he hn
    rcases Nat.lt_or_ge pre.length e.length with hl | hl
    · obtain ⟨a, ha, hb⟩ : ∃ a, e = pre ++ a ∧ a ≠ [] := by
        rcases List.append_eq_append_iff.1 he with ⟨a, h1, _⟩ | ⟨a, h1, _⟩
        · have := congrArg List.length h1; simp at this; omega
        · refine ⟨a, h1, ?_⟩
          rintro rfl
          have := congrArg List.length h1; simp at this; omega
      have := hp.part pre a n ha hb
      show ((q (p _).1 (p _).2).2).f = 22
      rw [hs _ _ (by rw [this]; decide), this]
    · obtain ⟨a, ha⟩ : ∃ a, pre = e ++ a := by
        rcases List.append_eq_append_iff.1 he with ⟨a, h1, _⟩ | ⟨a, h1, _⟩
        · exact ⟨a, h1⟩
        · refine ⟨[], ?_⟩
          have := congrArg List.length h1; simp at this
          have : a = [] := List.eq_nil_of_length_eq_zero (by omega)
          subst this
          simpa using h1.symm
      subst ha
      rw [List.append_assoc, List.append_cancel_left_eq] at he
      show ((q (p _).1 (p _).2).2).f = 22
      rw [hp.whole a n]
      exact hq.part a suf _ he hn
theorem Fits.congr {α : Type} {p p' : St → α × St} {e : List UInt8} {x : α} (h : Fits p e x) (hp : ∀ s, s.f = 0 → p' s = p s) : Fits p' e x :=
  ⟨fun rest n => (hp _ rfl).trans (h.whole rest n), fun pre suf n h1 h2 => by rw [hp _ rfl]; exact h.part pre suf n h1 h2⟩
theorem Fits.map {α β : Type} {p : St → α × St} {e : List UInt8} {x : α} (h : Fits p e x) (f : α → β) : Fits (fun s => (f (p s).1, (p s).2)) e (f x) :=
  ⟨fun rest n => by simp only [h.whole rest n], fun pre suf n h1 h2 => h.part pre suf n h1 h2⟩
theorem Fits.pure {α : Type} (x : α) : Fits (fun s => (x, s)) [] x := ⟨fun rest n => by simp, fun pre suf n h h' => by simp at h; exact absurd h.2 h'⟩

theorem small_fits (b : UInt8) (m : Nat) (h : b.toNat ≤ m) : Fits (St.small · m) [b] b.toNat := by
  refine ⟨?_, ?_⟩
  · intro rest n
    simp [St.small, St.byte, St.take, Nat.not_lt.2 h]
  · intro pre suf n he hn
    cases pre with
    | nil => simp [St.small, St.byte, St.fail]
    | cons c pre =>
      simp at he
      exact absurd he.2.2 hn
theorem bytes_fits (l : List UInt8) (n : Nat) (h : l.length = n) : Fits (St.bytes · n) l l := by
  subst h
  refine ⟨?_, ?_⟩
  · intro rest n
    simp [St.bytes, St.take]
    intro hlt
    omega
  · intro pre suf n he hn
    have : pre.length < l.length := by
      rw [he, List.length_append]
      have := List.length_pos_iff.2 hn
      omega
    simp [St.bytes, this, St.fail]

theorem rdU_part : ∀ (m k acc : Nat) (pre suf : List UInt8), k ≤ 9 → m * 2 ^ (7 * k) < 18446744073709551616 → (k = 0 ∨ m ≠ 0) → uvarint m = pre ++ suf → suf ≠ [] → rdU k acc pre = (0, 0, 22) := by
  intro m
  induction m using Nat.strongRecOn with
  | ind m ih =>
  intro k acc pre suf hk hm h0 he hn
  by_cases h : m < 128
  · rw [uvarint_small h] at he
    cases pre with
    | nil => rw [rdU, if_neg (by omega)]
    | cons c pre => simp at he; exact absurd he.2.2 hn
  · have e : (m % 128 + 128).toUInt8.toNat = m % 128 + 128 := by simp only [Nat.toUInt8, UInt8.toNat_ofNat']; omega
    have hk9 : k ≤ 8 := by
      rcases Nat.lt_or_ge k 9 with h1 | h1
      · omega
      · obtain rfl : k = 9 := by omega
        have : 128 * 2 ^ (7 * 9) ≤ m * 2 ^ (7 * 9) := Nat.mul_le_mul_right _ (by omega)
        omega
    have ep : 2 ^ (7 * (k + 1)) = 128 * 2 ^ (7 * k) := by rw [Nat.mul_add, Nat.pow_add]; omega
    have em : m * 2 ^ (7 * k) = m % 128 * 2 ^ (7 * k) + m / 128 * (128 * 2 ^ (7 * k)) := by
      rw [← Nat.mul_assoc, ← Nat.add_mul]
      congr 1
      omega
    rw [uvarint_big (by omega)] at he
    cases pre with
    | nil => rw [rdU, if_neg (by omega)]
    | cons c pre =>
      simp only [List.cons_append, List.cons.injEq] at he
      obtain ⟨rfl, he⟩ := he
      rw [rdU, e, if_neg (by omega), if_neg (by omega)]
      exact ih (m / 128) (by omega) (k + 1) _ pre suf (by omega) (by rw [ep]; omega) (.inr (by omega)) he hn
theorem uint_fits (k : Nat) (h : k < 18446744073709551616) : Fits St.uint (uvarint k) k := by
  refine ⟨?_, ?_⟩
  · intro rest n
    simp [St.uint, rdU_put k rest h, St.take]
  · intro pre suf n he hn
    simp [St.uint, rdU_part k 0 0 pre suf (by omega) (by simpa using h) (.inl rfl) he hn, St.fail]
theorem int_fits (k : Int) (h : zigzag k < 18446744073709551616) : Fits St.int (uvarint (zigzag k)) k := by
  refine ⟨?_, ?_⟩
  · intro rest n
    simp [St.int, rdU_put (zigzag k) rest h, St.take, unzig_zigzag]
  · intro pre suf n he hn
    simp [St.int, rdU_part (zigzag k) 0 0 pre suf (by omega) (by simpa using h) (.inl rfl) he hn, St.fail]

/-! a value -/
/-- the text of a value, behind its length -/
def St.text (t : Nat) (s : St) : List UInt8 × St := St.bytes (if s.f = 0 ∧ 0 ∈ s.l.take t then s.fail 20 else s) t
theorem text_stuck (t : Nat) : Stuck (St.text t) := by
  intro s h
  unfold St.text
  rw [if_neg (fun e => h e.1)]
  exact bytes_stuck t s h
theorem text_fits (l : List UInt8) (n : Nat) (h : l.length = n) (h0 : (0 : UInt8) ∉ l) : Fits (St.text n) l l := by
  have hB := bytes_fits l n h
  refine ⟨?_, ?_⟩
  · intro rest k
    unfold St.text
    rw [if_neg]
    · exact hB.whole rest k
    · rintro ⟨_, hm⟩
      subst h
      simp at hm
      exact h0 hm
  · intro pre suf k he hn
    unfold St.text
    rw [if_neg]
    · exact hB.part pre suf k he hn
    · rintro ⟨_, hm⟩
      exact h0 (by rw [he]; exact List.mem_append_left _ (List.mem_of_mem_take hm))
/-- what stands behind a value's kind -/
def St.rest (k : Nat) (s : St) : Va × St :=
  if k = 1 then (⟨1, (s.small 1).1, ⟨#[]⟩⟩, (s.small 1).2) else if k = 2 then (⟨2, s.int.1, ⟨#[]⟩⟩, s.int.2) else
  if k = 3 then St.seq (St.small · 40) St.text (fun _ l => (⟨3, 0, ⟨l.toArray⟩⟩ : Va)) s else (⟨k, 0, ⟨#[]⟩⟩, s)
theorem rest_stuck (k : Nat) : Stuck (St.rest k) := by
  intro s h
  unfold St.rest
  split
  · exact small_stuck 1 s h
  split
  · exact int_stuck s h
  split
  · exact Stuck.seq _ (small_stuck 40) text_stuck s h
  · rfl
theorem value_seq (s : St) : s.value = St.seq (St.small · 3) St.rest (fun _ v => v) s := by
  unfold St.value St.seq St.rest
  dsimp only
  split
  · rfl
  split
  · rfl
  split <;> rfl
theorem value_stuck : Stuck St.value := fun s h => by rw [value_seq]; exact Stuck.seq _ (small_stuck 3) rest_stuck s h

theorem ofNat_toNat {n : Nat} (h : n < 256) : (UInt8.ofNat n).toNat = n := by rw [UInt8.toNat_ofNat']; omega
theorem size_toList (s : ByteArray) : s.data.toList.length = s.size := by rw [Array.length_toList]; rfl

theorem eq_empty {s : ByteArray} (h : s.toList = []) : s = ⟨#[]⟩ := by
  rw [ByteArray.toList_eq] at h
  cases s with
  | mk d =>
    congr 1
    exact Array.toList_eq_nil_iff.1 h
theorem value_fits (v : Va) (h : mayV v = true) (hi : (Lit.int .i64 v.int).wf = true) : Fits St.value (putV v) v := by
  have key : ∀ (k : Nat) (e : List UInt8), k ≤ 3 → Fits (St.rest k) e v → Fits St.value (UInt8.ofNat k :: e) v := by
    intro k e hk hf
    have := Fits.seq (fun _ v => v) (small_fits (UInt8.ofNat k) 3 (by rw [ofNat_toNat (by omega)]; exact hk)) (q := St.rest) (e' := e) (y := v) (by rw [ofNat_toNat (by omega)]; exact hf) rest_stuck
    exact this.congr (fun s _ => value_seq s)
  have h2 := h
  rcases mayV_kind h with hk | hk | hk | hk
  · have hx : v = ⟨0, 0, ⟨#[]⟩⟩ := by
      unfold mayV at h2
      rw [if_pos hk] at h2
      simp only [Bool.and_eq_true, decide_eq_true_eq] at h2
      cases v with
      | mk a b c =>
        simp only at hk h2
        rw [hk, h2.1]
        congr
        have := h2.2
        rw [List.isEmpty_iff] at this
        exact eq_empty this
    have hp : putV v = UInt8.ofNat 0 :: [] := by unfold putV; rw [hk]; rfl
    rw [hp]
    refine key 0 [] (by omega) ?_
    rw [hx]
    exact Fits.pure _
  · have hb := mayV_bool h hk
    obtain ⟨m, hm, hm1⟩ : ∃ m : Nat, v.int = m ∧ m ≤ 1 := by
      rcases hb with e | e
      · exact ⟨0, e, by omega⟩
      · exact ⟨1, e, by omega⟩
    have hx : v = ⟨1, m, ⟨#[]⟩⟩ := by
      unfold mayV at h2
      rw [if_neg (by omega), if_pos hk] at h2
      simp only [Bool.and_eq_true] at h2
      cases v with
      | mk a b c =>
        simp only at hk hm h2
        rw [hk, hm]
        congr
        have := h2.2
        rw [List.isEmpty_iff] at this
        exact eq_empty this
    have hp : putV v = UInt8.ofNat 1 :: [UInt8.ofNat m] := by unfold putV; rw [hk, hm]; rfl
    rw [hp]
    refine key 1 _ (by omega) ?_
    have := (small_fits (UInt8.ofNat m) 1 (by rw [ofNat_toNat (by omega)]; exact hm1)).map (fun x => (⟨1, (x : Nat), ⟨#[]⟩⟩ : Va))
    rw [ofNat_toNat (by omega), ← hx] at this
    exact this.congr (fun s _ => by simp [St.rest])
  · have hx : v = ⟨2, v.int, ⟨#[]⟩⟩ := by
      unfold mayV at h2
      rw [if_neg (by omega), if_neg (by omega), if_pos hk] at h2
      cases v with
      | mk a b c =>
        simp only at hk h2
        rw [hk]
        congr
        rw [List.isEmpty_iff] at h2
        exact eq_empty h2
    have hp : putV v = UInt8.ofNat 2 :: uvarint (zigzag v.int) := by unfold putV; rw [hk]; rfl
    rw [hp]
    refine key 2 _ (by omega) ?_
    have := (int_fits v.int (zigzag_lt' hi)).map (fun x => (⟨2, x, ⟨#[]⟩⟩ : Va))
    rw [← hx] at this
    exact this.congr (fun s _ => by simp [St.rest])
  · obtain ⟨t1, t2, t3⟩ := mayV_text h hk
    have hx : v = ⟨3, 0, ⟨v.text.data.toList.toArray⟩⟩ := by
      cases v with
      | mk a b c =>
        simp only at hk t1
        rw [hk, t1]
    have hu : uvarint v.text.size = [UInt8.ofNat v.text.size] := uvarint_small (by omega)
    have hp : putV v = UInt8.ofNat 3 :: ([UInt8.ofNat v.text.size] ++ v.text.data.toList) := by unfold putV; rw [hk, ← hu]; rfl
    rw [hp]
    refine key 3 _ (by omega) ?_
    have := Fits.seq (fun _ l => (⟨3, 0, ⟨l.toArray⟩⟩ : Va)) (small_fits (UInt8.ofNat v.text.size) 40 (by rw [ofNat_toNat (by omega)]; exact t2)) (text_fits v.text.data.toList (UInt8.ofNat v.text.size).toNat (by rw [ofNat_toNat (by omega), size_toList]) t3) text_stuck
    rw [← hx] at this
    exact this.congr (fun s _ => by simp [St.rest])

theorem values_stuck : ∀ n, Stuck (St.values n)
  | 0 => fun _ _ => rfl
  | n + 1 => fun s h => by
    show (St.values n s.value.2).2.f = s.f
    rw [values_stuck n _ (by rw [value_stuck s h]; exact h), value_stuck s h]
theorem values_fits : ∀ (l : List Va), (∀ v ∈ l, mayV v = true) → (∀ v ∈ l, (Lit.int .i64 v.int).wf = true) → Fits (St.values l.length) (putVs l) l
  | [], _, _ => Fits.pure _
  | v :: l, h, hi => Fits.seq (q := fun _ => St.values l.length) (fun v l => v :: l) (value_fits v (h v (by simp)) (hi v (by simp))) (values_fits l (fun v hv => h v (by simp [hv])) (fun v hv => hi v (by simp [hv]))) (fun _ => values_stuck _)
theorem row_seq : St.row = St.seq (St.small · 64) St.values (fun _ l => l) := rfl
theorem row_stuck : Stuck St.row := Stuck.seq (fun _ l => l) (small_stuck 64) values_stuck
theorem row_fits (l : List Va) (h : rowOk l = true) (hi : ∀ v ∈ l, (Lit.int .i64 v.int).wf = true) : Fits St.row (putRow l) l := by
  unfold rowOk at h
  simp only [Bool.and_eq_true, decide_eq_true_eq, List.all_eq_true] at h
  have hp : putRow l = [UInt8.ofNat l.length] ++ putVs l := by unfold putRow; rw [uvarint_small (by omega)]; first | done | rfl
  rw [hp, row_seq]
  exact Fits.seq (q := St.values) (fun _ l => l) (small_fits (UInt8.ofNat l.length) 64 (by rw [ofNat_toNat (by omega)]; exact h.1)) (by rw [ofNat_toNat (by omega)]; exact values_fits l h.2 hi) values_stuck
theorem rowP_put (l : List Va) (rest : List UInt8) (h : rowOk l = true) (hi : ∀ v ∈ l, (Lit.int .i64 v.int).wf = true) : rowP (putRow l ++ rest) = (l, (putRow l).length, 0) := by
  unfold rowP
  rw [(row_fits l h hi).whole rest 0]
  simp
theorem rowP_part (l : List Va) (cut : Nat) (rest : List UInt8) (h : rowOk l = true) (hi : ∀ v ∈ l, (Lit.int .i64 v.int).wf = true) (hc : cut < (putRow l).length) : (rowP ((putRow l ++ rest).take cut)).2.2 = 22 := by
  rw [List.take_append_of_le_length (by omega)]
  have := (row_fits l h hi).part ((putRow l).take cut) ((putRow l).drop cut) 0 (List.take_append_drop _ _).symm (by
    intro e
    have := congrArg List.length e
    simp at this
    omega)
  unfold rowP
  dsimp only
  rw [if_neg (by rw [this]; decide), this]

/-! an entry -/
def St.count (s : St) (m : Nat) : Nat × St := if m < s.uint.1 then (0, s.uint.2.fail 20) else s.uint
def St.sql (s : St) : List UInt8 × St :=
  let t := match s.l with
    | a :: b :: _ => if 128 ≤ a.toNat ∧ 128 ≤ b.toNat then s.fail 20 else s
    | _ => s
  (t.count 2000).2.bytes (t.count 2000).1
def St.entry (s : St) : Ent × St :=
  let k := s.uint.2.small 1
  if k.2.f = 0 ∧ k.1 = 1 then (⟨s.uint.1, 1, k.2.uint.1, k.2.uint.2.uint.1, ⟨k.2.uint.2.uint.2.sql.1.toArray⟩⟩, k.2.uint.2.uint.2.sql.2) else (⟨s.uint.1, k.1, 0, 0, ⟨#[]⟩⟩, k.2)
/-- what Entry tells -/
def entP (l : List UInt8) : Ent × Nat × Nat :=
  let x := (⟨l, 0, 0⟩ : St).entry
  if x.2.f = 0 then (x.1, x.2.n, 0) else (⟨0, 0, 0, 0, ⟨#[]⟩⟩, 0, x.2.f)

theorem count_stuck (m : Nat) : Stuck (St.count · m) := by
  intro s h
  show (s.count m).2.f = s.f
  unfold St.count
  split
  · rw [fail_stuck _ _ (by rw [uint_stuck s h]; exact h), uint_stuck s h]
  · exact uint_stuck s h
theorem count_fits (k m : Nat) (h : k ≤ m) (hm : k < 18446744073709551616) : Fits (St.count · m) (uvarint k) k := by
  have hu := uint_fits k hm
  refine ⟨?_, ?_⟩
  · intro rest n
    show St.count _ m = _
    unfold St.count
    rw [hu.whole rest n, if_neg (by simp only []; omega)]
  · intro pre suf n he hn
    have := hu.part pre suf n he hn
    show (St.count _ m).2.f = 22
    unfold St.count
    split
    · rw [fail_stuck _ _ (by rw [this]; decide), this]
    · exact this
theorem sql_stuck : Stuck St.sql := by
  intro s h
  have hb : ∀ t : St, t.f = s.f → ((t.count 2000).2.bytes (t.count 2000).1).2.f = s.f := fun t ht => by
    have := count_stuck 2000 t (by rw [ht]; exact h)
    have h2 := bytes_stuck (t.count 2000).1 (t.count 2000).2 (by rw [this, ht]; exact h)
    simp only at h2
    rw [h2, this, ht]
  unfold St.sql
  apply hb
  split
  · split
    · exact fail_stuck s _ h
    · rfl
  · rfl
theorem uvarint_2000 {n : Nat} (h : n ≤ 2000) : ∀ a b r, uvarint n = a :: b :: r → b.toNat < 128 := by
  intro a b r he
  by_cases h1 : n < 128
  · rw [uvarint_small h1] at he; simp at he
  · rw [uvarint_big (by omega), uvarint_small (by omega)] at he
    simp only [List.cons.injEq] at he
    rw [← he.2.1]
    simp only [Nat.toUInt8, UInt8.toNat_ofNat']
    omega
theorem sql_fits (s : ByteArray) (h : s.size ≤ 2000) : Fits St.sql (uvarint s.size ++ s.data.toList) s.data.toList := by
  have hf := Fits.seq (q := fun n s => St.bytes s n) (fun _ l => l) (count_fits s.size 2000 h (by omega)) (bytes_fits s.data.toList s.size (size_toList s)) (fun n => bytes_stuck n)
  have hun : ∀ (l : List UInt8) (n : Nat) (rest : List UInt8), (∀ a b r, l = a :: b :: r → (128 ≤ a.toNat ∧ 128 ≤ b.toNat) → False) → St.sql ⟨l, n, 0⟩ = St.seq (St.count · 2000) (fun n s => St.bytes s n) (fun _ l => l) ⟨l, n, 0⟩ := by
    intro l n rest hno
    unfold St.sql St.seq
    dsimp only
    rcases l with _ | ⟨a, _ | ⟨b, r⟩⟩
    · rfl
    · rfl
    · dsimp only
      rw [if_neg (fun hh => hno a b r rfl hh)]
  have hno : ∀ (l suf : List UInt8), uvarint s.size ++ s.data.toList ++ suf = l ++ [] ∨ uvarint s.size ++ s.data.toList = l ++ suf → ∀ a b r, l = a :: b :: r → (128 ≤ a.toNat ∧ 128 ≤ b.toNat) → False := by
    intro l suf hl a b r he ⟨h1, h2⟩
    subst he
    have hx : ∃ r', uvarint s.size ++ (s.data.toList ++ r') = a :: b :: (r ++ (if uvarint s.size ++ s.data.toList ++ suf = (a :: b :: r) ++ [] then [] else suf)) := by
      rcases hl with hl | hl
      · exact ⟨suf, by rw [if_pos hl, List.append_nil, ← List.append_assoc]; simpa using hl⟩
      · by_cases h0 : uvarint s.size ++ s.data.toList ++ suf = (a :: b :: r) ++ []
        · exact ⟨suf, by rw [if_pos h0, List.append_nil, ← List.append_assoc]; simpa using h0⟩
        · exact ⟨[], by rw [if_neg h0]; simpa using hl⟩
    obtain ⟨r', hx⟩ := hx
    by_cases h3 : s.size < 128
    · rw [uvarint_small h3] at hx
      simp only [List.singleton_append, List.cons.injEq] at hx
      rw [← hx.1] at h1
      simp only [Nat.toUInt8, UInt8.toNat_ofNat'] at h1
      omega
    · rw [uvarint_big (by omega), uvarint_small (by omega)] at hx
      simp only [List.cons_append, List.cons.injEq] at hx
      rw [← hx.2.1] at h2
      simp only [Nat.toUInt8, UInt8.toNat_ofNat'] at h2
      omega
  refine ⟨?_, ?_⟩
  · intro rest n
    rw [hun _ n rest (hno _ rest (.inl (by simp)))]
    exact hf.whole rest n
  · intro pre suf n he hn
    rw [hun _ n [] (hno _ suf (.inr he))]
    exact hf.part pre suf n he hn

/-- what stands behind an entry's kind -/
def St.erest (t k : Nat) (s : St) : Ent × St :=
  if s.f = 0 ∧ k = 1 then St.seq St.uint (fun _ => St.seq St.uint (fun _ => St.sql) Prod.mk) (fun a x => (⟨t, 1, a, x.1, ⟨x.2.toArray⟩⟩ : Ent)) s else (⟨t, k, 0, 0, ⟨#[]⟩⟩, s)
theorem erest_stuck (t k : Nat) : Stuck (St.erest t k) := by
  intro s h
  unfold St.erest
  rw [if_neg (fun e => h e.1)]
theorem entry_seq (s : St) : s.entry = St.seq St.uint (fun t => St.seq (St.small · 1) (St.erest t) (fun _ e => e)) (fun _ e => e) s := by
  unfold St.entry St.seq St.erest
  dsimp only
  split <;> rfl
theorem entry_stuck : Stuck St.entry := fun s h => by rw [entry_seq]; exact Stuck.seq _ uint_stuck (fun t => Stuck.seq _ (small_stuck 1) (erest_stuck t)) s h
theorem entry_fits (e : Ent) (h : entOk e = true) (h1 : e.term < 18446744073709551616) (h2 : e.client < 18446744073709551616) (h3 : e.seq < 18446744073709551616) : Fits St.entry (putE e) e := by
  unfold entOk at h
  simp only [Bool.and_eq_true, decide_eq_true_eq] at h
  obtain ⟨hs, h⟩ := h
  have key : ∀ (k : Nat) (l : List UInt8), k ≤ 1 → Fits (St.erest e.term k) l e → Fits St.entry (uvarint e.term ++ ([UInt8.ofNat k] ++ l)) e := by
    intro k l hk hf
    have := Fits.seq (fun _ e => e) (uint_fits e.term h1) (q := fun t => St.seq (St.small · 1) (St.erest t) (fun _ e => e)) (e' := [UInt8.ofNat k] ++ l) (y := e)
      (Fits.seq (fun _ e => e) (small_fits (UInt8.ofNat k) 1 (by rw [ofNat_toNat (by omega)]; exact hk)) (q := St.erest e.term) (e' := l) (y := e) (by rw [ofNat_toNat (by omega)]; exact hf) (erest_stuck _)) (fun t => Stuck.seq _ (small_stuck 1) (erest_stuck t))
    exact this.congr (fun s _ => entry_seq s)
  by_cases hk : e.kind = 0
  · rw [if_pos hk] at h
    simp only [Bool.and_eq_true, decide_eq_true_eq] at h
    have hx : e = ⟨e.term, 0, 0, 0, ⟨#[]⟩⟩ := by
      cases e with
      | mk a b c d f =>
        simp only at hk h
        rw [hk, h.1.1, h.1.2]
        congr
        have := h.2
        rw [List.isEmpty_iff] at this
        exact eq_empty this
    have hp : putE e = uvarint e.term ++ ([UInt8.ofNat 0] ++ []) := by unfold putE; rw [hk]; simp
    rw [hp]
    refine key 0 [] (by omega) ?_
    have := (Fits.pure (⟨e.term, 0, 0, 0, ⟨#[]⟩⟩ : Ent)).congr (p' := St.erest e.term 0) (fun s _ => by simp [St.erest])
    rw [← hx] at this
    exact this
  · rw [if_neg hk] at h
    simp only [decide_eq_true_eq] at h
    have hx : e = ⟨e.term, 1, e.client, e.seq, ⟨e.sql.data.toList.toArray⟩⟩ := by
      cases e with
      | mk a b c d f =>
        simp only at h
        rw [h]
    have hp : putE e = uvarint e.term ++ ([UInt8.ofNat 1] ++ (uvarint e.client ++ (uvarint e.seq ++ (uvarint e.sql.size ++ e.sql.data.toList)))) := by unfold putE; rw [h]; simp
    rw [hp]
    refine key 1 _ (by omega) ?_
    have := Fits.seq (fun a x => (⟨e.term, 1, a, x.1, ⟨x.2.toArray⟩⟩ : Ent)) (uint_fits e.client h2) (q := fun _ => St.seq St.uint (fun _ => St.sql) Prod.mk)
      (Fits.seq Prod.mk (uint_fits e.seq h3) (q := fun _ => St.sql) (sql_fits e.sql hs) (fun _ => sql_stuck)) (fun _ => Stuck.seq _ uint_stuck (fun _ => sql_stuck))
    dsimp only at this
    rw [← hx] at this
    exact this.congr (fun s hf => by simp [St.erest, hf])
theorem entP_put (e : Ent) (rest : List UInt8) (h : entOk e = true) (h1 : e.term < 18446744073709551616) (h2 : e.client < 18446744073709551616) (h3 : e.seq < 18446744073709551616) : entP (putE e ++ rest) = (e, (putE e).length, 0) := by
  unfold entP
  rw [(entry_fits e h h1 h2 h3).whole rest 0]
  simp
theorem entP_part (e : Ent) (cut : Nat) (rest : List UInt8) (h : entOk e = true) (h1 : e.term < 18446744073709551616) (h2 : e.client < 18446744073709551616) (h3 : e.seq < 18446744073709551616) (hc : cut < (putE e).length) : (entP ((putE e ++ rest).take cut)).2.2 = 22 := by
  rw [List.take_append_of_le_length (by omega)]
  have := (entry_fits e h h1 h2 h3).part ((putE e).take cut) ((putE e).drop cut) 0 (List.take_append_drop _ _).symm (by
    intro e
    have := congrArg List.length e
    simp at this
    omega)
  unfold entP
  dsimp only
  rw [if_neg (by rw [this]; decide), this]
end Go.Proofs.YtfgmbjdeimallaaGreatDoor
/- A reader of bytes: count, sql. -/

namespace Go.Proofs.YtfgmbjdeimallaaGreatDoor
open Go.RowKit Go.Lib

theorem uint_lt (s : St) : s.uint.1 < 18446744073709551616 := by
  unfold St.uint
  split
  · exact rdU_lt _
  · show 0 < _
    decide
theorem uint_bad {s : St} (h : s.uint.2.f ≠ 0) : s.uint.1 = 0 := by
  unfold St.uint at h ⊢
  split
  · rename_i h0
    rw [if_pos h0] at h
    unfold St.take at h
    rw [if_pos ⟨h0.1, rfl⟩] at h
    exact absurd rfl h
  · rfl

set_option maxRecDepth 100000 in
set_option maxHeartbeats 1000000 in
theorem rd_count {N : Nat} (r : Nat) (s : St) (m : Nat) (w : World) (h : RdAt N w r s) (hm63 : m < 9223372036854775808) :
    Calls Tryz.prog 95 #[.pointer (some ⟨r, 0, none⟩), .int .i64 m] w fun e w' => e = .returned (.int .i64 (s.count m).1) ∧ RdAt N w' r (s.count m).2 ∧ Keeps [r] w w' := by
  have P := rd_uint r s w h
  have hu := uint_lt s
  have hub : s.uint.2.f ≠ 0 → s.uint.1 = 0 := uint_bad
  have q0 : IntKind.u64.wrap (m : Int) = m := IntWalk.u64_in _ (by omega)
  generalize hst : s.count m = sm
  unfold St.count at hst
  generalize hsu : s.uint = su at *
  obtain ⟨u, t⟩ := su
  simp only [] at hst P hu hub
  clear hsu
  have HST := Lib.hid hst
  have HUB := Lib.hid hub
  clear hst hub
  go_enter Tryz.func95, Tryz.ntmps95
  go_wp2_with fail
  refine P.mono ?_
  rintro e w1 ⟨rfl, h1, hk1⟩
  clear P h
  by_cases hmu : m < u
  · have n1 : (m : Int) < (u : Int) := by omega
    have e1 := Lib.hid (show (0, t.fail 20) = sm by rw [← HST.out, if_pos hmu])
    go_wp2_with fail
    refine (wform _ w1).mono ?_
    rintro e w2 ⟨g, rfl, hE, hk2⟩
    go_wp2_with fail
    refine (rd_fails r t _ 20 w2 (h1.keep hk2) (ErrF.of hE (by simp)) (by decide)).mono ?_
    rintro e w3 ⟨rfl, h3, hk3⟩
    obtain ⟨ao2, c2, hS2, hn2, hm2, hc2⟩ := h3.open
    rcases hc2 with ⟨h0, _⟩ | ⟨_, g2, p2, hB2, _⟩
    · exact absurd h0 (fail_f t (by decide))
    have hcc := hB2.cell
    have hll := hB2.lt
    go_wp2_with fail
    go_ret
    exact ⟨by rw [← e1.out]; rfl, by rw [← e1.out]; exact h3, hk1.trans (hk2.of_nil.trans hk3)⟩
  · have n1 : ¬ ((m : Int) < (u : Int)) := by omega
    have e1 := Lib.hid (show (u, t) = sm by rw [← HST.out, if_neg hmu])
    obtain ⟨ao2, c2, hS2, hn2, hm2, hc2⟩ := h1.open
    rcases hc2 with ⟨h0, hB2⟩ | ⟨h0, g2, p2, hB2, _⟩
    · have hcc := hB2.cell
      have hll := hB2.lt
      have q1 : IntKind.i64.wrap (u : Int) = u := IntWalk.i64_in _ (by omega)
      clear h0
      go_wp2_with fail
      go_ret
      exact ⟨by rw [← e1.out]; rfl, by rw [← e1.out]; exact h1, hk1⟩
    · have hcc := hB2.cell
      have hll := hB2.lt
      have e2 := Lib.hid (HUB.out h0)
      clear h0
      go_wp2_with fail
      go_ret
      exact ⟨by rw [← e1.out, e2.out]; rfl, by rw [← e1.out]; exact h1, hk1⟩

def St.head2 (s : St) : St := match s.l with
  | a :: b :: _ => if 128 ≤ a.toNat ∧ 128 ≤ b.toNat then s.fail 20 else s
  | _ => s
theorem sql_eq (s : St) : s.sql = (s.head2.count 2000).2.bytes (s.head2.count 2000).1 := by unfold St.sql St.head2; rfl

set_option maxRecDepth 100000 in
set_option maxHeartbeats 1000000 in
theorem rd_sql {N : Nat} (r : Nat) (s : St) (w : World) (h : RdAt N w r s) :
    Calls Tryz.prog 86 #[.pointer (some ⟨r, 0, none⟩)] w fun e w' => e = .returned (.string ⟨s.sql.1.toArray⟩) ∧ RdAt N w' r s.sql.2 ∧ Keeps [r] w w' := by
  rw [sql_eq]
  generalize ht : s.head2 = t
  have PC := fun w1 (h1 : RdAt N w1 r t) => rd_count r t 2000 w1 h1 (by decide)
  generalize t.count 2000 = tc at *
  obtain ⟨n, u⟩ := tc
  dsimp only at PC ⊢
  have PB := fun w1 (h1 : RdAt N w1 r u) => rd_bytes r u n w1 h1
  generalize u.bytes n = bx at *
  obtain ⟨x, y⟩ := bx
  dsimp only at PB ⊢
  have HPC := Lib.hid PC
  have HPB := Lib.hid PB
  clear PC PB
  obtain ⟨q, hq⟩ : ∃ q : Bool, (q = true → t = s.fail 20 ∧ ∃ a b r, s.l = a :: b :: r ∧ 128 ≤ a.toNat ∧ 128 ≤ b.toNat) ∧ (q = false → t = s ∧ ∀ a b r, s.l = a :: b :: r → ¬ (128 ≤ a.toNat ∧ 128 ≤ b.toNat)) := by
    unfold St.head2 at ht
    match hl : s.l with
    | [] => rw [hl] at ht; exact ⟨false, by simp, fun _ => ⟨ht.symm, fun a b r e => by simp at e⟩⟩
    | [a] => rw [hl] at ht; exact ⟨false, by simp, fun _ => ⟨ht.symm, fun a b r e => by simp at e⟩⟩
    | a :: b :: l =>
      rw [hl] at ht
      dsimp only at ht
      by_cases hab : 128 ≤ a.toNat ∧ 128 ≤ b.toNat
      · rw [if_pos hab] at ht
        exact ⟨true, fun _ => ⟨ht.symm, a, b, l, rfl, hab⟩, by simp⟩
      · rw [if_neg hab] at ht
        refine ⟨false, by simp, fun _ => ⟨ht.symm, fun a b r e => ?_⟩⟩
        simp only [List.cons.injEq] at e
        obtain ⟨rfl, rfl, rfl⟩ := e
        exact hab
  have HQ := Lib.hid hq
  clear hq ht
  obtain ⟨ao, c, hS, hn, hm, hc⟩ := h.open
  have hc0 : w.cell? ⟨r, 0, none⟩ = some (.slice ao s.l.length c) := by
    rcases hc with ⟨_, hB⟩ | ⟨_, g, p, hB, _⟩ <;> (rw [hB.cell]; rfl)
  have hlr : r < w.heap.size := by rcases hc with ⟨_, hB⟩ | ⟨_, g, p, hB, _⟩ <;> exact hB.lt
  clear hc
  have H := Lib.hid h
  clear h
  go_enter Tryz.func86, Tryz.ntmps86
  go_upto_region 1 with (fail)
  go_cut [26] (fun v wx => v = .bool q ∧ wx = w)
  case first =>
    match hl : s.l with
    | [] =>
      have e1 : q = false := by
        cases q with
        | false => rfl
        | true => obtain ⟨_, a, b, l, e, _⟩ := HQ.out.1 rfl; rw [hl] at e; simp at e
      rw [hl] at hc0
      simp only [List.length_nil] at hc0
      subst e1
      clear hl
      go_wp2_with fail
      go_meet
      exact ⟨rfl, rfl⟩
    | [a] =>
      have e1 : q = false := by
        cases q with
        | false => rfl
        | true => obtain ⟨_, a, b, l, e, _⟩ := HQ.out.1 rfl; rw [hl] at e; simp at e
      rw [hl] at hc0
      simp only [List.length_cons, List.length_nil] at hc0
      subst e1
      clear hl
      go_wp2_with fail
      go_meet
      exact ⟨rfl, rfl⟩
    | a :: b :: l =>
      obtain ⟨bb, o, rfl⟩ := hS.at (by have := hS.cap; rw [hl] at this; simp at this; omega)
      have c0 := hS.cell _ rfl 0 _ (bys_at (by rw [hl]; simp))
      have c1 := hS.cell _ rfl 1 _ (bys_at (by rw [hl]; simp))
      have b0 : s.l[0]'(by rw [hl]; simp) = a := by simp [hl]
      have b1 : s.l[1]'(by rw [hl]; simp) = b := by simp [hl]
      rw [b0] at c0
      rw [b1] at c1
      simp only [Nat.add_zero] at c0
      have n0 : (1 : Int) < (s.l.length : Int) := by rw [hl]; simp; omega
      have n9 : (0 : Int) < (s.l.length : Int) := by omega
      have hy : (128 ≤ a.toNat ∧ 128 ≤ b.toNat) → q = true := by
        intro hh
        cases q with
        | true => rfl
        | false => exact absurd hh ((HQ.out.2 rfl).2 a b l hl)
      have hno : ¬ (128 ≤ a.toNat ∧ 128 ≤ b.toNat) → q = false := by
        intro hh
        cases q with
        | false => rfl
        | true =>
          obtain ⟨_, a', b', l', e, hab⟩ := HQ.out.1 rfl
          rw [hl] at e
          simp only [List.cons.injEq] at e
          obtain ⟨rfl, rfl, rfl⟩ := e
          exact absurd hab hh
      clear hl b0 b1
      by_cases h1 : 128 ≤ a.toNat
      · have n1 : (128 : Int) ≤ (a.toNat : Int) := by omega
        by_cases h2 : 128 ≤ b.toNat
        · have n2 : (128 : Int) ≤ (b.toNat : Int) := by omega
          have e1 := Lib.hid (hy ⟨h1, h2⟩)
          clear hy hno
          go_wp2_with fail
          go_meet
          exact ⟨by rw [e1.out], rfl⟩
        · have n2 : ¬ ((128 : Int) ≤ (b.toNat : Int)) := by omega
          have e1 := Lib.hid (hno (fun x => h2 x.2))
          clear hy hno
          go_wp2_with fail
          go_meet
          exact ⟨by rw [e1.out], rfl⟩
      · have n1 : ¬ ((128 : Int) ≤ (a.toNat : Int)) := by omega
        have e1 := Lib.hid (hno (fun x => h1 x.1))
        clear hy hno
        go_wp2_with fail
        go_meet
        exact ⟨by rw [e1.out], rfl⟩
  case rest =>
  obtain ⟨rfl, rfl⟩ := hcut
  clear hc0 hS
  go_upto_if 26 with (fail)
  go_cut [] (fun wx => RdAt N wx r t ∧ Keeps [r] wc wx)
  case first =>
    cases q with
    | true =>
      have e1 := Lib.hid (HQ.out.1 rfl).1
      clear HQ
      go_wp2_with fail
      refine (wform _ _).mono ?_
      rintro e w2 ⟨g, rfl, hE, hk2⟩
      go_wp2_with fail
      refine (rd_fails r s _ 20 w2 (H.out.keep hk2) (ErrF.of hE (by simp)) (by decide)).mono ?_
      rintro e w3 ⟨rfl, h3, hk3⟩
      go_wp2_with fail
      go_meet
      exact ⟨by rw [e1.out]; exact h3, hk2.of_nil.trans hk3⟩
    | false =>
      have e1 := Lib.hid (HQ.out.2 rfl).1
      clear HQ
      go_wp2_with fail
      go_meet
      exact ⟨by rw [e1.out]; exact H.out, Keeps.refl _ _⟩
  case rest =>
    obtain ⟨h1, hk1⟩ := hcut
    clear H HQ
    go_wp2_with fail
    refine (HPC.out _ h1).mono ?_
    rintro e w2 ⟨rfl, h2, hk2⟩
    have hk02 := hk1.trans hk2
    clear HPC h1 hk1 hk2
    go_wp2_with fail
    refine (HPB.out _ h2).mono ?_
    rintro e w7 ⟨ao, c, rfl, hR7, h7, hk7⟩
    have r1 := run_text hR7 26 9 Tryz.underlying26 Tryz.underlying9
    go_wp2_with fail
    go_ret
    exact ⟨rfl, h7, hk02.trans hk7⟩
end Go.Proofs.YtfgmbjdeimallaaGreatDoor
