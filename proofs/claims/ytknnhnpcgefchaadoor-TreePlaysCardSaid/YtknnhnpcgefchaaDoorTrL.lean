/- Lists of pairs in order: what is in them behind a change; they are alike when the same is in them; keys of two bytes. -/
import Derived.Test.YtknnhnpcgefchaaDoorTr1
namespace Go.Proofs.YtknnhnpcgefchaaDoor
open Go.RowKit
section
variable {k : Bs} {l m : List KV}

theorem mem_ins {p : KV} {v : Bs} : p ∈ ins k v l ↔ p = (k, v) ∨ (p ∈ l ∧ p.1 ≠ k) := by
  simp only [ins, lo, hi, List.mem_append, List.mem_cons, List.mem_filter]
  constructor
  · rintro (⟨h1, h2⟩ | h | ⟨h1, h2⟩)
    · exact .inr ⟨h1, ltB_ne h2⟩
    · exact .inl h
    · exact .inr ⟨h1, (ltB_ne h2).symm⟩
  · rintro (h | ⟨h1, h2⟩)
    · exact .inr (.inl h)
    · rcases ltB_tri p.1 k with h | h | h
      · exact .inl ⟨h1, h⟩
      · exact absurd h h2
      · exact .inr (.inr ⟨h1, h⟩)
theorem mem_del {p : KV} : p ∈ del k l ↔ p ∈ l ∧ p.1 ≠ k := by
  simp only [del, lo, hi, List.mem_append, List.mem_filter]
  constructor
  · rintro (⟨h1, h2⟩ | ⟨h1, h2⟩)
    · exact ⟨h1, ltB_ne h2⟩
    · exact ⟨h1, (ltB_ne h2).symm⟩
  · rintro ⟨h1, h2⟩
    rcases ltB_tri p.1 k with h | h | h
    · exact .inl ⟨h1, h⟩
    · exact absurd h h2
    · exact .inr ⟨h1, h⟩
theorem del_no (hs : Srt l) (h : has k l = false) : del k l = l := by
  have e := hs.split (k := k)
  rcases hs.frm_cases (k := k) with ⟨_, g⟩ | ⟨v, g, _⟩
  · rw [g] at e
    exact e.symm
  · rw [h] at g; cases g

theorem Srt.ext : ∀ {l m : List KV}, Srt l → Srt m → (∀ p, p ∈ l ↔ p ∈ m) → l = m
  | [], [], _, _, _ => rfl
  | [], b :: m, _, _, h => absurd ((h b).2 List.mem_cons_self) (by simp)
  | a :: l, [], _, _, h => absurd ((h a).1 List.mem_cons_self) (by simp)
  | a :: l, b :: m, hl, hm, h => by
    obtain ⟨h1, h2⟩ := List.pairwise_cons.1 hl
    obtain ⟨h3, h4⟩ := List.pairwise_cons.1 hm
    have hab : a = b := by
      rcases List.mem_cons.1 ((h a).1 List.mem_cons_self) with e | e
      · exact e
      rcases List.mem_cons.1 ((h b).2 List.mem_cons_self) with e' | e'
      · exact e'.symm
      have x1 := ltB_asymm (h1 b e')
      rw [h3 a e] at x1
      cases x1
    subst hab
    congr 1
    refine Srt.ext h2 h4 fun p => ⟨fun hp => ?_, fun hp => ?_⟩
    · rcases List.mem_cons.1 ((h p).1 (List.mem_cons_of_mem _ hp)) with e | e
      · subst e
        have := h1 p hp
        rw [ltB_irr] at this
        cases this
      · exact e
    · rcases List.mem_cons.1 ((h p).2 (List.mem_cons_of_mem _ hp)) with e | e
      · subst e
        have := h3 p hp
        rw [ltB_irr] at this
        cases this
      · exact e

/-- where a cursor may go on -/
def from_ (k : Bs) (ab : Bool) (q : Bs) : Prop := ltB q k = false ∧ (ab = true → q ≠ k)
theorem from_hi {q : Bs} : from_ k true q ↔ ltB k q = true := by
  unfold from_
  constructor
  · rintro ⟨h1, h2⟩
    rcases ltB_tri k q with h | h | h
    · exact h
    · exact absurd h.symm (h2 rfl)
    · rw [h] at h1; cases h1
  · intro h
    exact ⟨ltB_asymm h, fun _ => (ltB_ne h).symm⟩
theorem nxt_none {ab : Bool} (h : nxt k ab l = none) : ∀ p ∈ l, ¬ from_ k ab p.1 := by
  intro p hp hf
  cases ab with
  | false =>
    simp only [nxt, Bool.false_eq_true, if_false, List.head?_eq_none_iff] at h
    have : p ∈ frm k l := List.mem_filter.2 ⟨hp, by simp [hf.1]⟩
    rw [h] at this
    cases this
  | true =>
    simp only [nxt, if_true, List.head?_eq_none_iff] at h
    have : p ∈ hi k l := List.mem_filter.2 ⟨hp, from_hi.1 hf⟩
    rw [h] at this
    cases this
theorem head_least {l : List KV} {q : KV} (hs : Srt l) (h : l.head? = some q) : q ∈ l ∧ ∀ p ∈ l, p = q ∨ ltB q.1 p.1 = true := by
  cases l with
  | nil => simp at h
  | cons a l =>
    simp at h
    subst h
    refine ⟨List.mem_cons_self, fun p hp => ?_⟩
    rcases List.mem_cons.1 hp with rfl | hp
    · exact .inl rfl
    · exact .inr ((List.pairwise_cons.1 hs).1 p hp)
theorem nxt_some {ab : Bool} {q : KV} (hs : Srt l) (h : nxt k ab l = some q) : q ∈ l ∧ from_ k ab q.1 ∧ ∀ p ∈ l, from_ k ab p.1 → p = q ∨ ltB q.1 p.1 = true := by
  cases ab with
  | false =>
    simp only [nxt, Bool.false_eq_true, if_false] at h
    obtain ⟨h1, h2⟩ := head_least (hs.sub List.filter_sublist) h
    exact ⟨(frm_mem h1).1, ⟨(frm_mem h1).2, by simp⟩, fun p hp hf => h2 p (List.mem_filter.2 ⟨hp, by simp [hf.1]⟩)⟩
  | true =>
    simp only [nxt, if_true] at h
    obtain ⟨h1, h2⟩ := head_least (hs.sub List.filter_sublist) h
    exact ⟨(hi_mem h1).1, from_hi.2 (hi_mem h1).2, fun p hp hf => h2 p (List.mem_filter.2 ⟨hp, from_hi.1 hf⟩)⟩
end

/-- a number's two bytes -/
def num (n : Nat) : Bs := [UInt8.ofNat (n / 256), UInt8.ofNat n]
@[simp] theorem num_length (n : Nat) : (num n).length = 2 := rfl
theorem u8_lt {a b : Nat} (ha : a < 256) (hb : b < 256) : UInt8.ofNat a < UInt8.ofNat b ↔ a < b := by
  rw [UInt8.lt_iff_toNat_lt, UInt8.toNat_ofNat', UInt8.toNat_ofNat', Nat.mod_eq_of_lt ha, Nat.mod_eq_of_lt hb]
theorem u8_mod (a : Nat) : UInt8.ofNat a = UInt8.ofNat (a % 256) := by
  apply UInt8.toNat_inj.1
  simp
theorem num_lt {a b : Nat} (ha : a < 65536) (hb : b < 65536) : ltB (num a) (num b) = true ↔ a < b := by
  rw [ltB_iff]
  unfold num
  rw [u8_mod a, u8_mod b]
  simp only [cmpL]
  have e1 := u8_lt (a := a / 256) (b := b / 256) (by omega) (by omega)
  have e2 := u8_lt (a := b / 256) (b := a / 256) (by omega) (by omega)
  have e3 := u8_lt (a := a % 256) (b := b % 256) (by omega) (by omega)
  have e4 := u8_lt (a := b % 256) (b := a % 256) (by omega) (by omega)
  by_cases h1 : a / 256 < b / 256
  · rw [if_pos (e1.2 h1)]
    simp
    omega
  · rw [if_neg (fun h => h1 (e1.1 h))]
    by_cases h2 : b / 256 < a / 256
    · rw [if_pos (e2.2 h2)]
      simp
      omega
    · rw [if_neg (fun h => h2 (e2.1 h))]
      by_cases h3 : a % 256 < b % 256
      · rw [if_pos (e3.2 h3)]
        simp
        omega
      · rw [if_neg (fun h => h3 (e3.1 h))]
        by_cases h4 : b % 256 < a % 256
        · rw [if_pos (e4.2 h4)]
          simp
          omega
        · rw [if_neg (fun h => h4 (e4.1 h))]
          simp
          omega
theorem num_inj {a b : Nat} (ha : a < 65536) (hb : b < 65536) (h : num a = num b) : a = b := by
  rcases Nat.lt_trichotomy a b with h' | h' | h'
  · have := (num_lt ha hb).2 h'
    rw [h, ltB_irr] at this
    cases this
  · exact h'
  · have := (num_lt hb ha).2 h'
    rw [h, ltB_irr] at this
    cases this

/-- the bytes of a number, of a text, of a dump -/
def textB (uv : Nat → Bs) (b : Bs) : Bs := uv b.length ++ b
def dumpB (uv : Nat → Bs) (l : List KV) : Bs := uv l.length ++ (l.map fun p => textB uv p.1 ++ textB uv p.2).flatten
end Go.Proofs.YtknnhnpcgefchaaDoor
