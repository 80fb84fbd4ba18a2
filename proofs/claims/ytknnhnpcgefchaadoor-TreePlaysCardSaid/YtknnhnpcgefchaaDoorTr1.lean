/- Bytes in their order; lists of keys and values in the keys' order. -/
import Derived.Test.YtknnhnpcgefchaaDoorBase
namespace Go.Proofs.YtknnhnpcgefchaaDoor
open Go.RowKit

abbrev Bs := List UInt8
/-- -1, 0, 1: the first byte that parts them decides, else the length -/
def cmpL : Bs → Bs → Int
  | [], [] => 0
  | [], _ :: _ => -1
  | _ :: _, [] => 1
  | x :: xs, y :: ys => if x < y then -1 else if y < x then 1 else cmpL xs ys
def ltB (a b : Bs) : Bool := cmpL a b == -1
theorem cmpL_refl : ∀ a : Bs, cmpL a a = 0
  | [] => rfl
  | x :: xs => by
    have : ¬ x < x := UInt8.lt_irrefl x
    simp [cmpL, this, cmpL_refl xs]
theorem cmpL_eq : ∀ a b : Bs, cmpL a b = 0 ↔ a = b
  | [], [] => by simp [cmpL]
  | [], _ :: _ => by simp [cmpL]
  | _ :: _, [] => by simp [cmpL]
  | x :: xs, y :: ys => by
    unfold cmpL
    by_cases h1 : x < y
    · rw [if_pos h1]
      constructor
      · intro h; omega
      · intro h; cases h; exact absurd h1 (UInt8.lt_irrefl x)
    · rw [if_neg h1]
      by_cases h2 : y < x
      · rw [if_pos h2]
        constructor
        · intro h; omega
        · intro h; cases h; exact absurd h2 (UInt8.lt_irrefl x)
      · rw [if_neg h2, cmpL_eq xs ys]
        have : x = y := UInt8.le_antisymm (UInt8.not_lt.1 h2) (UInt8.not_lt.1 h1)
        simp [this]
theorem cmpL_swap : ∀ a b : Bs, cmpL b a = - cmpL a b
  | [], [] => rfl
  | [], _ :: _ => rfl
  | _ :: _, [] => rfl
  | x :: xs, y :: ys => by
    unfold cmpL
    by_cases h1 : x < y
    · have h2 : ¬ y < x := UInt8.lt_asymm h1
      simp [h1, h2]
    · by_cases h2 : y < x
      · simp [h1, h2]
      · simp [h1, h2, cmpL_swap xs ys]
theorem cmpL_range : ∀ a b : Bs, cmpL a b = -1 ∨ cmpL a b = 0 ∨ cmpL a b = 1
  | [], [] => by simp [cmpL]
  | [], _ :: _ => by simp [cmpL]
  | _ :: _, [] => by simp [cmpL]
  | x :: xs, y :: ys => by
    unfold cmpL
    by_cases h1 : x < y
    · simp [h1]
    · rw [if_neg h1]
      by_cases h2 : y < x
      · simp [h2]
      · rw [if_neg h2]
        exact cmpL_range xs ys
theorem cmpL_trans : ∀ a b c : Bs, cmpL a b = -1 → cmpL b c = -1 → cmpL a c = -1
  | [], [], _, h, _ => by simp [cmpL] at h
  | [], _ :: _, [], _, h => by simp [cmpL] at h
  | [], _ :: _, _ :: _, _, _ => rfl
  | _ :: _, [], _, h, _ => by simp [cmpL] at h
  | _ :: _, _ :: _, [], _, h => by simp [cmpL] at h
  | x :: xs, y :: ys, z :: zs, h, h' => by
    unfold cmpL at h h' ⊢
    by_cases h1 : x < y
    · by_cases h2 : y < z
      · rw [if_pos (UInt8.lt_trans h1 h2)]
      · rw [if_neg h2] at h'
        by_cases h3 : z < y
        · rw [if_pos h3] at h'; omega
        · have : y = z := UInt8.le_antisymm (UInt8.not_lt.1 h3) (UInt8.not_lt.1 h2)
          subst this
          rw [if_pos h1]
    · rw [if_neg h1] at h
      by_cases h2 : y < x
      · rw [if_pos h2] at h; omega
      · have : x = y := UInt8.le_antisymm (UInt8.not_lt.1 h2) (UInt8.not_lt.1 h1)
        subst this
        rw [if_neg h2] at h
        by_cases h3 : x < z
        · rw [if_pos h3]
        · rw [if_neg h3] at h' ⊢
          by_cases h4 : z < x
          · rw [if_pos h4] at h'; omega
          · rw [if_neg h4] at h' ⊢
            exact cmpL_trans xs ys zs h h'
theorem ltB_iff {a b : Bs} : ltB a b = true ↔ cmpL a b = -1 := by simp [ltB]
theorem ltB_irr (a : Bs) : ltB a a = false := by simp [ltB, cmpL_refl]
theorem ltB_trans {a b c : Bs} (h : ltB a b = true) (h' : ltB b c = true) : ltB a c = true := ltB_iff.2 (cmpL_trans a b c (ltB_iff.1 h) (ltB_iff.1 h'))
theorem ltB_asymm {a b : Bs} (h : ltB a b = true) : ltB b a = false := by
  rcases hb : ltB b a with _ | _
  · rfl
  · have := ltB_trans h hb
    rw [ltB_irr] at this
    cases this
theorem ltB_ne {a b : Bs} (h : ltB a b = true) : a ≠ b := by
  rintro rfl
  rw [ltB_irr] at h
  cases h
/-- not below, and not the same: above -/
theorem ltB_tri (a b : Bs) : ltB a b = true ∨ a = b ∨ ltB b a = true := by
  rcases cmpL_range a b with h | h | h
  · exact .inl (ltB_iff.2 h)
  · exact .inr (.inl ((cmpL_eq a b).1 h))
  · refine .inr (.inr (ltB_iff.2 ?_))
    rw [cmpL_swap, h]
theorem ltB_false {a b : Bs} : ltB a b = false ↔ a = b ∨ ltB b a = true := by
  constructor
  · intro h
    rcases ltB_tri a b with h1 | h1 | h1
    · rw [h] at h1; cases h1
    · exact .inl h1
    · exact .inr h1
  · rintro (rfl | h)
    · exact ltB_irr a
    · exact ltB_asymm h
/-- a ≤ b < c -/
theorem leB_lt {a b c : Bs} (h : ltB b a = false) (h' : ltB b c = true) : ltB a c = true := by
  rcases ltB_false.1 h with rfl | h
  · exact h'
  · exact ltB_trans h h'
theorem lt_leB {a b c : Bs} (h : ltB a b = true) (h' : ltB c b = false) : ltB a c = true := by
  rcases ltB_false.1 h' with rfl | h'
  · exact h
  · exact ltB_trans h h'
theorem leB_trans {a b c : Bs} (h : ltB b a = false) (h' : ltB c b = false) : ltB c a = false := by
  rcases ltB_false.1 h with rfl | h
  · exact h'
  · exact ltB_asymm (lt_leB h h')
theorem nil_leB (a : Bs) : ltB a [] = false := by cases a <;> rfl

abbrev KV := Bs × Bs
/-- keys rise -/
def Srt (l : List KV) : Prop := l.Pairwise fun a b => ltB a.1 b.1 = true
/-- those below a key; those above; with the key; from the key on -/
def lo (k : Bs) (l : List KV) : List KV := l.filter fun p => ltB p.1 k
def hi (k : Bs) (l : List KV) : List KV := l.filter fun p => ltB k p.1
def frm (k : Bs) (l : List KV) : List KV := l.filter fun p => !ltB p.1 k
def has (k : Bs) (l : List KV) : Bool := l.any fun p => p.1 == k
def get (k : Bs) (l : List KV) : Bs := ((l.find? fun p => p.1 == k).map (·.2)).getD []
def ins (k v : Bs) (l : List KV) : List KV := lo k l ++ (k, v) :: hi k l
def del (k : Bs) (l : List KV) : List KV := lo k l ++ hi k l
/-- the first of those from a key on, or above it -/
def nxt (k : Bs) (above : Bool) (l : List KV) : Option KV := if above then (hi k l).head? else (frm k l).head?

section
variable {k : Bs} {l m : List KV}
theorem lo_app : lo k (l ++ m) = lo k l ++ lo k m := List.filter_append ..
theorem hi_app : hi k (l ++ m) = hi k l ++ hi k m := List.filter_append ..
theorem frm_app : frm k (l ++ m) = frm k l ++ frm k m := List.filter_append ..
theorem has_app : has k (l ++ m) = (has k l || has k m) := List.any_append ..
theorem lo_all (h : ∀ p ∈ l, ltB p.1 k = true) : lo k l = l := List.filter_eq_self.2 h
theorem lo_none (h : ∀ p ∈ l, ltB p.1 k = false) : lo k l = [] := List.filter_eq_nil_iff.2 fun p hp => by simp [h p hp]
theorem hi_all (h : ∀ p ∈ l, ltB k p.1 = true) : hi k l = l := List.filter_eq_self.2 h
theorem hi_none (h : ∀ p ∈ l, ltB k p.1 = false) : hi k l = [] := List.filter_eq_nil_iff.2 fun p hp => by simp [h p hp]
theorem frm_all (h : ∀ p ∈ l, ltB p.1 k = false) : frm k l = l := List.filter_eq_self.2 fun p hp => by simp [h p hp]
theorem frm_none (h : ∀ p ∈ l, ltB p.1 k = true) : frm k l = [] := List.filter_eq_nil_iff.2 fun p hp => by simp [h p hp]
theorem has_none (h : ∀ p ∈ l, p.1 ≠ k) : has k l = false := by
  unfold has
  rw [List.any_eq_false]
  intro p hp
  simpa using h p hp
theorem has_iff : has k l = true ↔ ∃ p ∈ l, p.1 = k := by simp [has]
theorem Srt.app : Srt (l ++ m) ↔ Srt l ∧ Srt m ∧ ∀ p ∈ l, ∀ q ∈ m, ltB p.1 q.1 = true := List.pairwise_append
theorem Srt.sub (h : Srt l) (hs : m.Sublist l) : Srt m := List.Pairwise.sublist hs h
theorem Srt.nil : Srt [] := List.Pairwise.nil
theorem lo_mem {p : KV} (h : p ∈ lo k l) : p ∈ l ∧ ltB p.1 k = true := by simpa [lo] using h
theorem hi_mem {p : KV} (h : p ∈ hi k l) : p ∈ l ∧ ltB k p.1 = true := by simpa [hi] using h
theorem frm_mem {p : KV} (h : p ∈ frm k l) : p ∈ l ∧ ltB p.1 k = false := by simpa [frm] using h
theorem Srt.ins (h : Srt l) (v : Bs) : Srt (ins k v l) := by
  refine Srt.app.2 ⟨h.sub List.filter_sublist, List.pairwise_cons.2 ⟨fun q hq => (hi_mem hq).2, h.sub List.filter_sublist⟩, fun p hp q hq => ?_⟩
  rcases List.mem_cons.1 hq with rfl | hq
  · exact (lo_mem hp).2
  · exact ltB_trans (lo_mem hp).2 (hi_mem hq).2
theorem Srt.del (h : Srt l) : Srt (del k l) := Srt.app.2 ⟨h.sub List.filter_sublist, h.sub List.filter_sublist, fun _ hp _ hq => ltB_trans (lo_mem hp).2 (hi_mem hq).2⟩
/-- a list in order parts at a key -/
theorem Srt.split : ∀ {l : List KV}, Srt l → l = lo k l ++ frm k l
  | [], _ => rfl
  | p :: l, h => by
    obtain ⟨h1, h2⟩ := List.pairwise_cons.1 h
    by_cases hp : ltB p.1 k = true
    · have e1 : lo k (p :: l) = p :: lo k l := by simp [lo, hp]
      have e2 : frm k (p :: l) = frm k l := by simp [frm, hp]
      rw [e1, e2, List.cons_append, ← Srt.split h2]
    · have hp' : ltB p.1 k = false := by simpa using hp
      have hl : ∀ q ∈ l, ltB q.1 k = false := fun q hq => ltB_false.2 (.inr (leB_lt hp' (h1 q hq)))
      have e1 : lo k (p :: l) = [] := lo_none fun q hq => by
        rcases List.mem_cons.1 hq with rfl | hq
        · exact hp'
        · exact hl q hq
      rw [e1, frm_all fun q hq => by
        rcases List.mem_cons.1 hq with rfl | hq
        · exact hp'
        · exact hl q hq]
      rfl
/-- what stands from a key on: the key itself, if it is there, then those above -/
theorem Srt.frm_cases (h : Srt l) : (has k l = false ∧ frm k l = hi k l) ∨ (∃ v, has k l = true ∧ frm k l = (k, v) :: hi k l ∧ get k l = v) := by
  have hs := h.split (k := k)
  have hsf : Srt (frm k l) := h.sub List.filter_sublist
  have hhi : hi k l = hi k (frm k l) := by
    conv => lhs; rw [hs, hi_app, hi_none fun p hp => ltB_asymm (lo_mem hp).2]
    rfl
  have hhas : has k l = has k (frm k l) := by
    conv => lhs; rw [hs, has_app, has_none fun p hp => ltB_ne (lo_mem hp).2]
    rfl
  cases hf : frm k l with
  | nil => exact .inl ⟨by rw [hhas, hf]; rfl, by rw [hhi, hf]; rfl⟩
  | cons p q =>
    have hp : ltB p.1 k = false := (frm_mem (l := l) (by rw [hf]; exact List.mem_cons_self)).2
    rw [hf] at hsf
    obtain ⟨h1, h2⟩ := List.pairwise_cons.1 hsf
    rcases ltB_false.1 hp with he | hlt
    · refine .inr ⟨p.2, ?_, ?_, ?_⟩
      · rw [hhas, hf]; simp [has, he]
      · rw [hhi, hf]
        have : hi k (p :: q) = q := by
          have e : hi k (p :: q) = hi k q := by simp [hi, he, ltB_irr]
          rw [e]
          exact hi_all fun x hx => he ▸ h1 x hx
        rw [this, ← he]
      · have hn : (lo k l).find? (fun p => p.1 == k) = none := by
          rw [List.find?_eq_none]
          intro x hx
          simpa using ltB_ne (lo_mem hx).2
        unfold get
        conv => lhs; rw [hs, List.find?_append, hn, hf]
        simp [he]
    · refine .inl ⟨?_, ?_⟩
      · rw [hhas, hf]
        refine has_none fun x hx => ?_
        rcases List.mem_cons.1 hx with rfl | hx
        · exact (ltB_ne hlt).symm
        · exact (ltB_ne (ltB_trans hlt (h1 x hx))).symm
      · rw [hhi, hf]
        exact (hi_all fun x hx => by
          rcases List.mem_cons.1 hx with rfl | hx
          · exact hlt
          · exact ltB_trans hlt (h1 x hx)).symm
/-- where the keys on both sides are apart from a key, only the middle turns -/
theorem ins_mid {A B : List KV} {v : Bs} (hA : ∀ p ∈ A, ltB p.1 k = true) (hB : ∀ p ∈ B, ltB k p.1 = true) : ins k v (A ++ l ++ B) = A ++ ins k v l ++ B := by
  unfold ins
  rw [lo_app, lo_app, hi_app, hi_app, lo_all hA, hi_all hB, lo_none fun p hp => ltB_asymm (hB p hp), hi_none fun p hp => ltB_asymm (hA p hp)]
  simp
theorem del_mid {A B : List KV} (hA : ∀ p ∈ A, ltB p.1 k = true) (hB : ∀ p ∈ B, ltB k p.1 = true) : del k (A ++ l ++ B) = A ++ del k l ++ B := by
  unfold del
  rw [lo_app, lo_app, hi_app, hi_app, lo_all hA, hi_all hB, lo_none fun p hp => ltB_asymm (hB p hp), hi_none fun p hp => ltB_asymm (hA p hp)]
  simp
theorem has_mid {A B : List KV} (hA : ∀ p ∈ A, ltB p.1 k = true) (hB : ∀ p ∈ B, ltB k p.1 = true) : has k (A ++ l ++ B) = has k l := by
  rw [has_app, has_app, has_none fun p hp => ltB_ne (hA p hp), has_none fun p hp => (ltB_ne (hB p hp)).symm]
  simp
theorem get_mid {A B : List KV} (hA : ∀ p ∈ A, ltB p.1 k = true) (hl : has k l = true) : get k (A ++ l ++ B) = get k l := by
  have hn : A.find? (fun p => p.1 == k) = none := by
    rw [List.find?_eq_none]
    intro x hx
    simpa using ltB_ne (hA x hx)
  unfold get
  rw [List.append_assoc, List.find?_append, hn, List.find?_append]
  obtain ⟨p, hp, he⟩ := has_iff.1 hl
  cases hf : l.find? (fun p => p.1 == k) with
  | none =>
    rw [List.find?_eq_none] at hf
    exact absurd (by simp [he]) (hf p hp)
  | some x => rfl
theorem nxt_mid {A B : List KV} {ab : Bool} (hA : ∀ p ∈ A, ltB p.1 k = true) : nxt k ab (A ++ B) = nxt k ab B := by
  unfold nxt
  rw [hi_app, frm_app, hi_none fun p hp => ltB_asymm (hA p hp), frm_none hA]
  rfl
theorem nxt_app {ab : Bool} : nxt k ab (l ++ m) = (nxt k ab l).or (nxt k ab m) := by
  unfold nxt
  rw [hi_app, frm_app, List.head?_append, List.head?_append]
  cases ab <;> rfl
theorem ins_len (h : Srt l) (v : Bs) : (ins k v l).length = if has k l then l.length else l.length + 1 := by
  have hs := congrArg List.length (h.split (k := k))
  rw [List.length_append] at hs
  unfold ins
  rcases h.frm_cases (k := k) with ⟨h1, h2⟩ | ⟨v', h1, h2, _⟩
  · rw [h2] at hs
    simp [h1]
    omega
  · rw [h2] at hs
    simp [h1] at hs ⊢
    omega
theorem del_len (h : Srt l) : (del k l).length = if has k l then l.length - 1 else l.length := by
  have hs := congrArg List.length (h.split (k := k))
  rw [List.length_append] at hs
  unfold del
  rcases h.frm_cases (k := k) with ⟨h1, h2⟩ | ⟨v', h1, h2, _⟩
  · rw [h2] at hs
    simp [h1]
    omega
  · rw [h2] at hs
    simp [h1] at hs ⊢
    omega
theorem ins_mem {p : KV} {v : Bs} (hp : p ∈ ins k v l) : p = (k, v) ∨ p ∈ l := by
  unfold ins at hp
  rcases List.mem_append.1 hp with hp | hp
  · exact .inr (lo_mem hp).1
  · rcases List.mem_cons.1 hp with rfl | hp
    · exact .inl rfl
    · exact .inr (hi_mem hp).1
theorem del_mem {p : KV} (hp : p ∈ del k l) : p ∈ l := by
  unfold del at hp
  rcases List.mem_append.1 hp with hp | hp
  · exact (lo_mem hp).1
  · exact (hi_mem hp).1
end
end Go.Proofs.YtknnhnpcgefchaaDoor
