/- TreeOne: what is in the trees behind each round. -/
import Derived.Test.YthibgaagfdgmmaaTrL
namespace Go.Proofs.Ythibgaagfdgmmaa
open Go.RowKit

def low (k : Nat) : Bs := [UInt8.ofNat k]
/-- a key with an x behind it -/
def numx (k : Nat) : Bs := num k ++ [120]
theorem num_ne_x (k j : Nat) : num k ≠ numx j := fun h => by have := congrArg List.length h; simp [num, numx] at this
def AInv (ks : List Nat) (la : List KV) : Prop := (∀ p ∈ la, ∃ k ∈ ks, p = (num k, low k)) ∧ ∀ k ∈ ks, (num k, low k) ∈ la
/-- a: keys, b: the keys that were put, c: those whose x may be there -/
def BInv (b c : List Nat) (lb : List KV) : Prop := (∀ p ∈ lb, (∃ k ∈ b, p = (num k, low k)) ∨ (∃ k ∈ c, p.1 = numx k)) ∧ ∀ k ∈ b, (num k, low k) ∈ lb
theorem num_low {j k : Nat} (hj : j < 65536) (hk : k < 65536) (h : num j = num k) : low j = low k := by rw [num_inj hj hk h]

theorem AInv.nil : AInv [] [] := ⟨by simp, by simp⟩
theorem BInv.nil (c : List Nat) : BInv [] c [] := ⟨by simp, by simp⟩
theorem AInv.put {ks : List Nat} {la : List KV} {k : Nat} (h : AInv ks la) (hks : ∀ j ∈ ks, j < 65536) (hk : k < 65536) : AInv (ks ++ [k]) (ins (num k) (low k) la) := by
  refine ⟨fun p hp => ?_, fun j hj => ?_⟩
  · rcases mem_ins.1 hp with rfl | ⟨hp, _⟩
    · exact ⟨k, by simp, rfl⟩
    · obtain ⟨j, hj, rfl⟩ := h.1 p hp
      exact ⟨j, by simp [hj], rfl⟩
  · rcases List.mem_append.1 hj with hj | hj
    · by_cases e : num j = num k
      · exact mem_ins.2 (.inl (by rw [e, num_low (hks j hj) hk e]))
      · exact mem_ins.2 (.inr ⟨h.2 j hj, e⟩)
    · obtain rfl : j = k := by simpa using hj
      exact mem_ins.2 (.inl rfl)
theorem BInv.x {b c : List Nat} {lb : List KV} {k : Nat} (h : BInv b c lb) (hk : k ∈ c) (v : Bs) : BInv b c (ins (numx k) v lb) := by
  refine ⟨fun p hp => ?_, fun j hj => mem_ins.2 (.inr ⟨h.2 j hj, num_ne_x j k⟩)⟩
  rcases mem_ins.1 hp with rfl | ⟨hp, _⟩
  · exact .inr ⟨k, hk, rfl⟩
  · exact h.1 p hp
theorem BInv.put {b c : List Nat} {lb : List KV} {k : Nat} (h : BInv b c lb) (hb : ∀ j ∈ b, j < 65536) (hk : k < 65536) (v : Bs) : BInv (k :: b) c (ins (num k) (low k) (ins (num k) v lb)) := by
  refine ⟨fun p hp => ?_, fun j hj => ?_⟩
  · rcases mem_ins.1 hp with rfl | ⟨hp, hne⟩
    · exact .inl ⟨k, by simp, rfl⟩
    · rcases mem_ins.1 hp with rfl | ⟨hp, _⟩
      · exact absurd rfl hne
      · rcases h.1 p hp with ⟨j, hj, e⟩ | ⟨j, hj, e⟩
        · exact .inl ⟨j, List.mem_cons_of_mem _ hj, e⟩
        · exact .inr ⟨j, hj, e⟩
  · by_cases e : num j = num k
    · refine mem_ins.2 (.inl ?_)
      rcases List.mem_cons.1 hj with rfl | hj
      · rfl
      · rw [e, num_low (hb j hj) hk e]
    · rcases List.mem_cons.1 hj with rfl | hj
      · exact absurd rfl e
      · exact mem_ins.2 (.inr ⟨mem_ins.2 (.inr ⟨h.2 j hj, e⟩), e⟩)
theorem BInv.del {b c : List Nat} {lb : List KV} {k : Nat} (h : BInv b (k :: c) lb) : BInv b c (del (numx k) lb) := by
  refine ⟨fun p hp => ?_, fun j hj => mem_del.2 ⟨h.2 j hj, num_ne_x j k⟩⟩
  obtain ⟨hp, hne⟩ := mem_del.1 hp
  rcases h.1 p hp with h | ⟨j, hj, e⟩
  · exact .inl h
  · rcases List.mem_cons.1 hj with rfl | hj
    · exact absurd e hne
    · exact .inr ⟨j, hj, e⟩
theorem one_list {ks : List Nat} {la lb : List KV} (ha : AInv ks la) (hb : BInv ks [] lb) (hsa : Srt la) (hsb : Srt lb) : la = lb := by
  refine Srt.ext hsa hsb fun p => ⟨fun hp => ?_, fun hp => ?_⟩
  · obtain ⟨k, hk, rfl⟩ := ha.1 p hp
    exact hb.2 k hk
  · rcases hb.1 p hp with ⟨k, hk, rfl⟩ | ⟨k, hk, _⟩
    · exact ha.2 k hk
    · cases hk
theorem BInv.swap {b b' c : List Nat} {lb : List KV} (h : BInv b c lb) (hb : ∀ k, k ∈ b ↔ k ∈ b') : BInv b' c lb :=
  ⟨fun p hp => (h.1 p hp).imp (fun ⟨k, hk, e⟩ => ⟨k, (hb k).1 hk, e⟩) id, fun k hk => h.2 k ((hb k).2 hk)⟩
theorem drop_back {ks : List Nat} {i k : Nat} (h : ks[ks.length - 1 - i]? = some k) (hi : i < ks.length) : ks.drop (ks.length - (i + 1)) = k :: ks.drop (ks.length - i) := by
  obtain ⟨hl, rfl⟩ := List.getElem?_eq_some_iff.1 h
  have e : ks.length - (i + 1) = ks.length - 1 - i := by omega
  rw [e, List.drop_eq_getElem_cons hl]
  congr 2
  omega
end Go.Proofs.Ythibgaagfdgmmaa
