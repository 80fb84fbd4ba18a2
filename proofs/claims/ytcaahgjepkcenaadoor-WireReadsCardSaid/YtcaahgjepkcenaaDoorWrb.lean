/- What the document reads, as plain functions; they tell what the wire's reader tells. -/
import Derived.Test.YtcaahgjepkcenaaDoorWl
import Derived.Test.YtcaahgjepkcenaaDoorWt
namespace Go.Proofs.YtcaahgjepkcenaaDoor
open Go.RowKit Go.Lib

/-- a parser does what a function on bytes tells -/
structure Agrees {α : Type} (p : St → α × St) (d : List UInt8 → α × Nat × Nat) : Prop where
  ok : ∀ l n, (d l).2.2 = 0 → p ⟨l, n, 0⟩ = ((d l).1, ⟨l.drop (d l).2.1, n + (d l).2.1, 0⟩)
  bad : ∀ l n, (d l).2.2 ≠ 0 → (p ⟨l, n, 0⟩).2.f = (d l).2.2

theorem rdU_one (x : UInt8) (r : List UInt8) (h : x.toNat < 128) : rdU 0 0 (x :: r) = (x.toNat, 1, 0) := by
  rw [rdU, if_neg (by omega), if_pos h]
  simp

theorem uint_agrees : Agrees St.uint (rdU 0 0) := by
  refine ⟨?_, ?_⟩
  · intro l n h
    unfold St.uint
    rw [if_pos ⟨rfl, h⟩]
    simp [St.take]
  · intro l n h
    unfold St.uint
    rw [if_neg (fun e => h e.2)]
    simp [St.fail]

def bad {α : Type} (x : α) (e : Nat) : α × Nat × Nat := (x, 0, e)
def V0 : Va := ⟨0, 0, ⟨#[]⟩⟩
def E0 : Ent := ⟨0, 0, 0, 0, ⟨#[]⟩⟩

/-- a value, as the document reads it -/
def docV : List UInt8 → Va × Nat × Nat
  | [] => bad V0 22
  | b :: t =>
    if b.toNat = 0 then (⟨0, 0, ⟨#[]⟩⟩, 1, 0) else
    if b.toNat = 1 then (match t with
      | [] => bad V0 22
      | c :: _ => if 1 < c.toNat then bad V0 20 else (⟨1, c.toNat, ⟨#[]⟩⟩, 2, 0)) else
    if b.toNat = 2 then (if (rdU 0 0 t).2.2 ≠ 0 then bad V0 (rdU 0 0 t).2.2 else (⟨2, unzig (rdU 0 0 t).1, ⟨#[]⟩⟩, 1 + (rdU 0 0 t).2.1, 0)) else
    if b.toNat = 3 then (match t with
      | [] => bad V0 22
      | c :: r => if 40 < c.toNat then bad V0 20 else if (0 : UInt8) ∈ r.take c.toNat then bad V0 20 else if r.length < c.toNat then bad V0 22 else (⟨3, 0, ⟨(r.take c.toNat).toArray⟩⟩, 2 + c.toNat, 0)) else
    bad V0 20

theorem value_agrees : Agrees St.value docV := by
  have key : ∀ l n, if (docV l).2.2 = 0 then St.value ⟨l, n, 0⟩ = ((docV l).1, ⟨l.drop (docV l).2.1, n + (docV l).2.1, 0⟩) else (St.value ⟨l, n, 0⟩).2.f = (docV l).2.2 := by
    intro l n
    have stuck : ∀ (k : Nat) (s : St), s.f ≠ 0 → (St.rest k s).2.f = s.f := fun k s h => rest_stuck k s h
    rw [value_seq]
    unfold St.seq
    dsimp only
    cases l with
    | nil =>
      have h1 : (⟨[], n, 0⟩ : St).small 3 = (0, ⟨[], n, 22⟩) := by simp [St.small, St.byte, St.fail]
      rw [h1]
      have := stuck 0 ⟨[], n, 22⟩ (by simp)
      simpa [docV, bad] using this
    | cons b t =>
      by_cases hb : 3 < b.toNat
      · have h1 : ((⟨b :: t, n, 0⟩ : St).small 3).2.f = 20 := by simp [St.small, St.byte, St.fail, hb]
        have hd : docV (b :: t) = bad V0 20 := by
          unfold docV
          dsimp only
          rw [if_neg (by omega), if_neg (by omega), if_neg (by omega), if_neg (by omega)]
        rw [hd]
        have := stuck ((⟨b :: t, n, 0⟩ : St).small 3).1 ((⟨b :: t, n, 0⟩ : St).small 3).2 (by rw [h1]; decide)
        rw [h1] at this
        simpa [bad] using this
      have h1 : (⟨b :: t, n, 0⟩ : St).small 3 = (b.toNat, ⟨t, n + 1, 0⟩) := by simp [St.small, St.byte, St.take, hb]
      rw [h1]
      dsimp only
      by_cases b0 : b.toNat = 0
      · have hd : docV (b :: t) = (⟨0, 0, ⟨#[]⟩⟩, 1, 0) := by unfold docV; dsimp only; rw [if_pos b0]
        rw [hd, b0]
        simp [St.rest]
      by_cases b1 : b.toNat = 1
      · rw [b1]
        cases t with
        | nil =>
          have hd : docV [b] = bad V0 22 := by unfold docV; dsimp only; rw [if_neg b0, if_pos b1]
          rw [hd]
          simp [St.rest, St.small, St.byte, St.fail, bad]
        | cons c r =>
          by_cases hc : 1 < c.toNat
          · have hd : docV (b :: c :: r) = bad V0 20 := by unfold docV; dsimp only; rw [if_neg b0, if_pos b1, if_pos hc]
            rw [hd]
            simp [St.rest, St.small, St.byte, St.fail, bad, hc]
          · have hd : docV (b :: c :: r) = (⟨1, c.toNat, ⟨#[]⟩⟩, 2, 0) := by unfold docV; dsimp only; rw [if_neg b0, if_pos b1, if_neg hc]
            rw [hd]
            simp [St.rest, St.small, St.byte, St.take, hc]
      by_cases b2 : b.toNat = 2
      · rw [b2]
        by_cases hu : (rdU 0 0 t).2.2 = 0
        · have hd : docV (b :: t) = (⟨2, unzig (rdU 0 0 t).1, ⟨#[]⟩⟩, 1 + (rdU 0 0 t).2.1, 0) := by unfold docV; dsimp only; rw [if_neg b0, if_neg b1, if_pos b2, if_neg (by simpa using hu)]
          rw [hd]
          have e1 : 1 + (rdU 0 0 t).2.1 = (rdU 0 0 t).2.1 + 1 := Nat.add_comm _ _
          rw [e1]
          simp [St.rest, St.int, hu, St.take]
          omega
        · have hd : docV (b :: t) = bad V0 (rdU 0 0 t).2.2 := by unfold docV; dsimp only; rw [if_neg b0, if_neg b1, if_pos b2, if_pos hu]
          rw [hd]
          simp [St.rest, St.int, hu, St.fail, bad]
      have b3 : b.toNat = 3 := by omega
      rw [b3]
      cases t with
      | nil =>
        have hd : docV [b] = bad V0 22 := by unfold docV; dsimp only; rw [if_neg b0, if_neg b1, if_neg b2, if_pos b3]
        rw [hd]
        have hr : St.rest 3 ⟨[], n + 1, 0⟩ = St.seq (St.small · 40) St.text (fun _ l => (⟨3, 0, ⟨l.toArray⟩⟩ : Va)) ⟨[], n + 1, 0⟩ := by simp [St.rest]
        rw [hr]
        unfold St.seq
        have h2 : (⟨[], n + 1, 0⟩ : St).small 40 = (0, ⟨[], n + 1, 22⟩) := by simp [St.small, St.byte, St.fail]
        dsimp only
        rw [h2]
        have := text_stuck 0 ⟨[], n + 1, 22⟩ (by simp)
        simpa [bad] using this
      | cons c r =>
        have hr : St.rest 3 ⟨c :: r, n + 1, 0⟩ = St.seq (St.small · 40) St.text (fun _ l => (⟨3, 0, ⟨l.toArray⟩⟩ : Va)) ⟨c :: r, n + 1, 0⟩ := by simp [St.rest]
        rw [hr]
        unfold St.seq
        dsimp only
        by_cases hc : 40 < c.toNat
        · have hd : docV (b :: c :: r) = bad V0 20 := by unfold docV; dsimp only; rw [if_neg b0, if_neg b1, if_neg b2, if_pos b3, if_pos hc]
          rw [hd]
          have h2 : ((⟨c :: r, n + 1, 0⟩ : St).small 40).2.f = 20 := by simp [St.small, St.byte, St.fail, hc]
          have := text_stuck ((⟨c :: r, n + 1, 0⟩ : St).small 40).1 ((⟨c :: r, n + 1, 0⟩ : St).small 40).2 (by rw [h2]; decide)
          rw [h2] at this
          simpa [bad] using this
        have h2 : (⟨c :: r, n + 1, 0⟩ : St).small 40 = (c.toNat, ⟨r, n + 1 + 1, 0⟩) := by simp [St.small, St.byte, St.take, hc]
        rw [h2]
        dsimp only
        by_cases hz : (0 : UInt8) ∈ r.take c.toNat
        · have hd : docV (b :: c :: r) = bad V0 20 := by unfold docV; dsimp only; rw [if_neg b0, if_neg b1, if_neg b2, if_pos b3, if_neg hc, if_pos hz]
          rw [hd]
          have : (St.text c.toNat ⟨r, n + 1 + 1, 0⟩).2.f = 20 := by
            unfold St.text
            simp only [hz, and_self, if_true]
            have := bytes_stuck c.toNat ((⟨r, n + 1 + 1, 0⟩ : St).fail 20) (by simp [St.fail])
            simpa [St.fail] using this
          simpa [bad] using this
        by_cases hs : r.length < c.toNat
        · have hd : docV (b :: c :: r) = bad V0 22 := by unfold docV; dsimp only; rw [if_neg b0, if_neg b1, if_neg b2, if_pos b3, if_neg hc, if_neg hz, if_pos hs]
          rw [hd]
          have : (St.text c.toNat ⟨r, n + 1 + 1, 0⟩).2.f = 22 := by
            unfold St.text
            simp [hz, St.bytes, hs, St.fail]
          simpa [bad] using this
        · have hd : docV (b :: c :: r) = (⟨3, 0, ⟨(r.take c.toNat).toArray⟩⟩, 2 + c.toNat, 0) := by unfold docV; dsimp only; rw [if_neg b0, if_neg b1, if_neg b2, if_pos b3, if_neg hc, if_neg hz, if_neg hs]
          rw [hd]
          have : St.text c.toNat ⟨r, n + 1 + 1, 0⟩ = (r.take c.toNat, ⟨r.drop c.toNat, n + 1 + 1 + c.toNat, 0⟩) := by
            unfold St.text
            simp [hz, St.bytes, hs, St.take]
          rw [this]
          have e1 : 2 + c.toNat = c.toNat + 1 + 1 := by omega
          rw [e1]
          simp
          omega
  refine ⟨fun l n h => ?_, fun l n h => ?_⟩
  · have := key l n; rw [if_pos h] at this; exact this
  · have := key l n; rw [if_neg h] at this; exact this

/-- so many values -/
def docVs : Nat → List UInt8 → List Va × Nat × Nat
  | 0, _ => ([], 0, 0)
  | n + 1, l => if (docV l).2.2 ≠ 0 then bad [] (docV l).2.2 else
    if (docVs n (l.drop (docV l).2.1)).2.2 ≠ 0 then bad [] (docVs n (l.drop (docV l).2.1)).2.2 else
    ((docV l).1 :: (docVs n (l.drop (docV l).2.1)).1, (docV l).2.1 + (docVs n (l.drop (docV l).2.1)).2.1, 0)
theorem values_agrees : ∀ k, Agrees (St.values k) (docVs k)
  | 0 => ⟨fun l n _ => by simp [St.values, docVs], fun l n h => absurd rfl h⟩
  | k + 1 => by
    have ih := values_agrees k
    have hv := value_agrees
    refine ⟨fun l n h => ?_, fun l n h => ?_⟩
    · unfold docVs at h ⊢
      split at h
      · rename_i h1; exact absurd h h1
      rename_i h1
      rw [if_neg h1]
      simp only [ne_eq, Decidable.not_not] at h1
      split at h
      · rename_i h2; exact absurd h h2
      rename_i h2
      rw [if_neg h2]
      simp only [ne_eq, Decidable.not_not] at h2
      show ((St.value ⟨l, n, 0⟩).1 :: (St.values k (St.value ⟨l, n, 0⟩).2).1, (St.values k (St.value ⟨l, n, 0⟩).2).2) = _
      rw [hv.ok l n h1]
      dsimp only
      rw [ih.ok _ _ h2]
      simp [List.drop_drop, Nat.add_assoc]
    · show (St.values k (St.value ⟨l, n, 0⟩).2).2.f = _
      unfold docVs at h ⊢
      split
      · rename_i h1
        have h3 := hv.bad l n h1
        rw [values_stuck k _ (by rw [h3]; exact h1), h3]
        rfl
      · rename_i h1
        rw [if_neg h1] at h
        simp only [ne_eq, Decidable.not_not] at h1
        split
        · rename_i h2
          rw [hv.ok l n h1]
          exact ih.bad _ _ h2
        · rename_i h2
          rw [if_neg h2] at h
          exact absurd rfl h
/-- a row -/
def docR : List UInt8 → List Va × Nat × Nat
  | [] => bad [] 22
  | b :: t => if 64 < b.toNat then bad [] 20 else if (docVs b.toNat t).2.2 ≠ 0 then bad [] (docVs b.toNat t).2.2 else ((docVs b.toNat t).1, 1 + (docVs b.toNat t).2.1, 0)
theorem rowP_doc (l : List UInt8) : rowP l = docR l := by
  unfold rowP St.row
  cases l with
  | nil =>
    have h1 : (⟨[], 0, 0⟩ : St).small 64 = (0, ⟨[], 0, 22⟩) := by simp [St.small, St.byte, St.fail]
    rw [h1]
    rfl
  | cons b t =>
    by_cases hb : 64 < b.toNat
    · have h1 : ((⟨b :: t, 0, 0⟩ : St).small 64).2.f = 20 := by simp [St.small, St.byte, St.fail, hb]
      have := values_stuck ((⟨b :: t, 0, 0⟩ : St).small 64).1 ((⟨b :: t, 0, 0⟩ : St).small 64).2 (by rw [h1]; decide)
      rw [h1] at this
      dsimp only
      rw [if_neg (by rw [this]; decide), this]
      simp [docR, hb, bad]
    have h1 : (⟨b :: t, 0, 0⟩ : St).small 64 = (b.toNat, ⟨t, 0 + 1, 0⟩) := by simp [St.small, St.byte, St.take, hb]
    rw [h1]
    dsimp only
    unfold docR
    dsimp only
    rw [if_neg hb]
    have hv := values_agrees b.toNat
    by_cases he : (docVs b.toNat t).2.2 = 0
    · rw [hv.ok t _ he]
      dsimp only
      rw [if_pos rfl, if_neg (fun h => h he)]
    · have := hv.bad t (0 + 1) he
      rw [if_pos he, if_neg (by rw [this]; exact he), this]
      rfl

/-- one reading behind another -/
def seqD {α β γ : Type} (d : List UInt8 → α × Nat × Nat) (d' : α → List UInt8 → β × Nat × Nat) (f : α → β → γ) (x0 : γ) (l : List UInt8) : γ × Nat × Nat :=
  if (d l).2.2 ≠ 0 then bad x0 (d l).2.2 else
  if (d' (d l).1 (l.drop (d l).2.1)).2.2 ≠ 0 then bad x0 (d' (d l).1 (l.drop (d l).2.1)).2.2 else
  (f (d l).1 (d' (d l).1 (l.drop (d l).2.1)).1, (d l).2.1 + (d' (d l).1 (l.drop (d l).2.1)).2.1, 0)
theorem seqD_bad1 {α β γ : Type} {d : List UInt8 → α × Nat × Nat} {d' : α → List UInt8 → β × Nat × Nat} {f : α → β → γ} {x0 : γ} {l : List UInt8} {x : α} {n e : Nat} (h : d l = (x, n, e)) (h0 : e ≠ 0) : seqD d d' f x0 l = bad x0 e := by
  unfold seqD
  rw [h]
  dsimp only
  rw [if_pos h0]
theorem seqD_bad2 {α β γ : Type} {d : List UInt8 → α × Nat × Nat} {d' : α → List UInt8 → β × Nat × Nat} {f : α → β → γ} {x0 : γ} {l : List UInt8} {x : α} {n : Nat} {y : β} {m e : Nat} (h : d l = (x, n, 0)) (h' : d' x (l.drop n) = (y, m, e)) (h0 : e ≠ 0) : seqD d d' f x0 l = bad x0 e := by
  unfold seqD
  rw [h]
  dsimp only
  rw [if_neg (fun h => h rfl), h']
  dsimp only
  rw [if_pos h0]
theorem seqD_ok {α β γ : Type} {d : List UInt8 → α × Nat × Nat} {d' : α → List UInt8 → β × Nat × Nat} {f : α → β → γ} {x0 : γ} {l : List UInt8} {x : α} {n : Nat} {y : β} {m : Nat} (h : d l = (x, n, 0)) (h' : d' x (l.drop n) = (y, m, 0)) : seqD d d' f x0 l = (f x y, n + m, 0) := by
  unfold seqD
  rw [h]
  dsimp only
  rw [if_neg (fun h => h rfl), h']
  dsimp only
  rw [if_neg (fun h => h rfl)]
theorem Agrees.seq {α β γ : Type} {p : St → α × St} {q : α → St → β × St} {d : List UInt8 → α × Nat × Nat} {d' : α → List UInt8 → β × Nat × Nat} (f : α → β → γ) (x0 : γ) (hp : Agrees p d) (hq : ∀ x, Agrees (q x) (d' x)) (hs : ∀ x, Stuck (q x)) : Agrees (St.seq p q f) (seqD d d' f x0) := by
  refine ⟨fun l n h => ?_, fun l n h => ?_⟩
  · unfold seqD at h ⊢
    split at h
    · rename_i h1; exact absurd h h1
    rename_i h1
    rw [if_neg h1]
    simp only [ne_eq, Decidable.not_not] at h1
    split at h
    · rename_i h2; exact absurd h h2
    rename_i h2
    rw [if_neg h2]
    simp only [ne_eq, Decidable.not_not] at h2
    unfold St.seq
    rw [hp.ok l n h1]
    dsimp only
    rw [(hq _).ok _ _ h2]
    simp [List.drop_drop, Nat.add_assoc]
  · show (q (p _).1 (p _).2).2.f = _
    unfold seqD at h ⊢
    split
    · rename_i h1
      have h3 := hp.bad l n h1
      rw [hs _ _ (by rw [h3]; exact h1), h3]
      rfl
    · rename_i h1
      rw [if_neg h1] at h
      simp only [ne_eq, Decidable.not_not] at h1
      split
      · rename_i h2
        rw [hp.ok l n h1]
        exact (hq _).bad _ _ h2
      · rename_i h2
        rw [if_neg h2] at h
        exact absurd rfl h

def twice : List UInt8 → Bool
  | a :: b :: _ => decide (128 ≤ a.toNat) && decide (128 ≤ b.toNat)
  | _ => false
def docS (l : List UInt8) : List UInt8 × Nat × Nat := if twice l = true then bad [] 20 else rdT l
theorem sql_twice (s : St) : s.sql = (((if twice s.l = true then s.fail 20 else s).count 2000).2.bytes ((if twice s.l = true then s.fail 20 else s).count 2000).1) := by
  obtain ⟨l, n, f⟩ := s
  unfold St.sql twice
  rcases l with _ | ⟨a, _ | ⟨b, r⟩⟩
  · rfl
  · rfl
  · dsimp only
    by_cases h : 128 ≤ a.toNat ∧ 128 ≤ b.toNat
    · rw [if_pos h, if_pos (by simp [h])]
    · rw [if_neg h, if_neg (by simpa using h)]
theorem sql_agrees : Agrees St.sql docS := by
  have key : ∀ l n, if (docS l).2.2 = 0 then St.sql ⟨l, n, 0⟩ = ((docS l).1, ⟨l.drop (docS l).2.1, n + (docS l).2.1, 0⟩) else (St.sql ⟨l, n, 0⟩).2.f = (docS l).2.2 := by
    intro l n
    rw [sql_twice]
    dsimp only
    unfold docS
    by_cases ht : twice l = true
    · rw [if_pos ht, if_pos ht]
      have h1 := count_stuck 2000 ((⟨l, n, 0⟩ : St).fail 20) (by simp [St.fail])
      have h2 := bytes_stuck (((⟨l, n, 0⟩ : St).fail 20).count 2000).1 (((⟨l, n, 0⟩ : St).fail 20).count 2000).2 (by rw [h1]; simp [St.fail])
      dsimp only at h1 h2
      rw [h2, h1]
      simp [bad, St.fail]
    · rw [if_neg ht, if_neg ht]
      by_cases hu : (rdU 0 0 l).2.2 = 0
      · have hc := uint_agrees.ok l n hu
        unfold St.count
        rw [hc]
        dsimp only
        by_cases h1 : 2000 < (rdU 0 0 l).1
        · have hT : rdT l = ([], 0, 20) := by unfold rdT; rw [if_neg (fun h => h hu), if_pos h1]
          rw [if_pos h1, hT]
          simp [St.bytes, St.fail]
        · rw [if_neg h1]
          unfold St.bytes
          dsimp only
          rw [List.length_drop]
          by_cases h2 : l.length - (rdU 0 0 l).2.1 < (rdU 0 0 l).1
          · have hT : rdT l = ([], 0, 22) := by unfold rdT; rw [if_neg (fun h => h hu), if_neg h1, if_pos h2]
            rw [if_pos h2, hT]
            simp [St.fail]
          · have hT : rdT l = ((l.drop (rdU 0 0 l).2.1).take (rdU 0 0 l).1, (rdU 0 0 l).2.1 + (rdU 0 0 l).1, 0) := by unfold rdT; rw [if_neg (fun h => h hu), if_neg h1, if_neg h2]
            rw [if_neg h2, hT]
            simp [St.take, List.drop_drop, Nat.add_assoc]
      · have hT : rdT l = ([], 0, (rdU 0 0 l).2.2) := by unfold rdT; rw [if_pos hu]
        have hc : (⟨l, n, 0⟩ : St).uint = (0, ⟨l, n, (rdU 0 0 l).2.2⟩) := by simp [St.uint, hu, St.fail]
        unfold St.count
        rw [hc, hT]
        simp [St.bytes, hu]
  refine ⟨fun l n h => ?_, fun l n h => ?_⟩
  · have := key l n; rw [if_pos h] at this; exact this
  · have := key l n; rw [if_neg h] at this; exact this

/-- an entry's kind -/
def docK : List UInt8 → Nat × Nat × Nat
  | [] => bad 0 22
  | b :: _ => if 1 < b.toNat then bad 0 20 else (b.toNat, 1, 0)
theorem kind_agrees : Agrees (St.small · 1) docK := by
  refine ⟨fun l n h => ?_, fun l n h => ?_⟩
  · cases l with
    | nil => simp [docK, bad] at h
    | cons b r =>
      unfold docK at h ⊢
      dsimp only at h ⊢
      split at h
      · simp [bad] at h
      · rename_i hb
        rw [if_neg hb]
        simp [St.small, St.byte, St.take, hb]
  · cases l with
    | nil => simp [docK, bad, St.small, St.byte, St.fail]
    | cons b r =>
      unfold docK at h ⊢
      dsimp only at h ⊢
      split at h
      · rename_i hb
        rw [if_pos hb]
        simp [St.small, St.byte, St.fail, hb, bad]
      · simp at h
def docEr (t k : Nat) : List UInt8 → Ent × Nat × Nat := if k = 1 then seqD (rdU 0 0) (fun _ => seqD (rdU 0 0) (fun _ => docS) Prod.mk (0, [])) (fun a x => (⟨t, 1, a, x.1, ⟨x.2.toArray⟩⟩ : Ent)) E0 else fun _ => (⟨t, k, 0, 0, ⟨#[]⟩⟩, 0, 0)
theorem erest_agrees (t k : Nat) : Agrees (St.erest t k) (docEr t k) := by
  unfold docEr
  by_cases hk : k = 1
  · rw [if_pos hk]
    have := Agrees.seq (fun a x => (⟨t, 1, a, x.1, ⟨x.2.toArray⟩⟩ : Ent)) E0 uint_agrees (fun _ => Agrees.seq Prod.mk (0, []) uint_agrees (fun _ => sql_agrees) (fun _ => sql_stuck)) (fun _ => Stuck.seq Prod.mk uint_stuck (fun _ => sql_stuck))
    refine ⟨fun l n h => ?_, fun l n h => ?_⟩
    · unfold St.erest; rw [if_pos ⟨rfl, hk⟩]; exact this.ok l n h
    · unfold St.erest; rw [if_pos ⟨rfl, hk⟩]; exact this.bad l n h
  · rw [if_neg hk]
    refine ⟨fun l n h => ?_, fun l n h => absurd rfl h⟩
    unfold St.erest
    rw [if_neg (fun e => hk e.2)]
    simp
/-- an entry, as the document reads it -/
def docE : List UInt8 → Ent × Nat × Nat := seqD (rdU 0 0) (fun t => seqD docK (docEr t) (fun _ e => e) E0) (fun _ e => e) E0
theorem entP_doc (l : List UInt8) : entP l = docE l := by
  have h : Agrees St.entry docE := by
    have := Agrees.seq (fun _ e => e) E0 uint_agrees (fun t => Agrees.seq (fun _ e => e) E0 kind_agrees (erest_agrees t) (erest_stuck t)) (fun t => Stuck.seq (fun _ e => e) (small_stuck 1) (erest_stuck t))
    refine ⟨fun l n h => ?_, fun l n h => ?_⟩
    · rw [entry_seq]; exact this.ok l n h
    · rw [entry_seq]; exact this.bad l n h
  unfold entP
  dsimp only
  by_cases he : (docE l).2.2 = 0
  · rw [h.ok l 0 he]
    dsimp only
    rw [if_pos rfl]
    generalize docE l = x at *
    obtain ⟨x, n, e⟩ := x
    dsimp only at he ⊢
    subst he
    simp
  · have h2 := h.bad l 0 he
    rw [if_neg (by rw [h2]; exact he), h2]
    have : ∀ (d d' : _) (l : List UInt8), (seqD (α := Nat) (β := Ent) d d' (fun _ e => e) E0 l).2.2 ≠ 0 → seqD d d' (fun _ e => e) E0 l = (E0, 0, (seqD d d' (fun _ e => e) E0 l).2.2) := by
      intro d d' l h
      unfold seqD at h ⊢
      split
      · rfl
      · rename_i h1
        rw [if_neg h1] at h
        split
        · rfl
        · rename_i h2
          rw [if_neg h2] at h
          exact absurd rfl h
    exact (this _ _ l he).symm
end Go.Proofs.YtcaahgjepkcenaaDoor
