/- Children in order: some of them give way to others; what stands to both sides of a child; least numbers. -/
import Derived.Test.YtknnhnpcgefchaaDoorTr19
namespace Go.Proofs.YtknnhnpcgefchaaDoor
open Go.RowKit Go.Lib

theorem mid_ahd {A M B parts : List Nd} (hah : (A ++ M ++ B).Pairwise Ahd) (hM : M ≠ []) (hph : parts.head?.map Nd.f = M.head?.map Nd.f) (hpa : parts.Pairwise Ahd) (hsub : ∀ p ∈ flat parts, p ∈ flat M) (hpn : ∀ y ∈ parts, y.l ≠ [] ∧ ∀ p ∈ y.l, ltB p.1 y.f = false) :
    (A ++ parts ++ B).Pairwise Ahd ∧ (A ++ parts ++ B).head?.map Nd.f = (A ++ M ++ B).head?.map Nd.f := by
  obtain ⟨h1, hB, hx⟩ := List.pairwise_append.1 hah
  obtain ⟨hA, hMp, ham⟩ := List.pairwise_append.1 h1
  obtain ⟨m0, M', rfl⟩ := List.exists_cons_of_ne_nil hM
  cases parts with
  | nil => simp at hph
  | cons p0 ps =>
    have hp0 : p0.f = m0.f := by simpa using hph
    have hge : ∀ y ∈ p0 :: ps, ltB y.f m0.f = false := fun y hy => by
      rcases List.mem_cons.1 hy with rfl | hy
      · rw [hp0]; exact ltB_irr _
      · rw [← hp0]; exact ltB_asymm ((List.pairwise_cons.1 hpa).1 y hy).1
    have hup : ∀ y ∈ p0 :: ps, ∀ x ∈ B, Ahd y x := fun y hy x hxB => by
      have hall : ∀ p ∈ y.l, ltB p.1 x.f = true := fun p hp => by
        obtain ⟨c, hc, hpc⟩ := flat_mem.1 (hsub p (flat_mem.2 ⟨y, hy, hp⟩))
        exact (hx c (List.mem_append_right _ hc) x hxB).2 p hpc
      refine ⟨?_, hall⟩
      obtain ⟨g1, g2⟩ := hpn y hy
      obtain ⟨p, q, hl⟩ := List.exists_cons_of_ne_nil g1
      have hp : p ∈ y.l := by rw [hl]; exact List.mem_cons_self
      exact leB_lt (g2 p hp) (hall p hp)
    refine ⟨?_, ?_⟩
    · refine List.pairwise_append.2 ⟨List.pairwise_append.2 ⟨hA, hpa, fun a ha y hy => ?_⟩, hB, fun a ha x hxB => ?_⟩
      · have h := ham a ha m0 List.mem_cons_self
        exact ⟨lt_leB h.1 (hge y hy), fun p hp => lt_leB (h.2 p hp) (hge y hy)⟩
      · rcases List.mem_append.1 ha with ha | ha
        · exact hx a (List.mem_append_left _ ha) x hxB
        · exact hup a ha x hxB
    · cases A with
      | nil => simp [hp0]
      | cons a A => simp

theorem mid_split {α : Type} {cs : List α} {i : Nat} {c : α} (h : cs[i]? = some c) : cs = cs.take i ++ [c] ++ cs.drop (i + 1) := by
  obtain ⟨hil, hc⟩ := List.getElem?_eq_some_iff.1 h
  have : cs.drop i = c :: cs.drop (i + 1) := by
    rw [List.drop_eq_getElem_cons hil, hc]
  rw [List.append_assoc, List.singleton_append, ← this, List.take_append_drop]
theorem two_split {α : Type} {cs : List α} {i : Nat} {a b : α} (h : cs[i]? = some a) (h' : cs[i + 1]? = some b) : cs = cs.take i ++ [a, b] ++ cs.drop (i + 2) := by
  obtain ⟨hil, hc⟩ := List.getElem?_eq_some_iff.1 h
  obtain ⟨hil', hc'⟩ := List.getElem?_eq_some_iff.1 h'
  have e1 : cs.drop i = a :: cs.drop (i + 1) := by rw [List.drop_eq_getElem_cons hil, hc]
  have e2 : cs.drop (i + 1) = b :: cs.drop (i + 2) := by rw [List.drop_eq_getElem_cons hil', hc']
  rw [List.append_assoc]
  change cs = cs.take i ++ a :: b :: cs.drop (i + 2)
  rw [← e2, ← e1, List.take_append_drop]
/-- what stands to both sides of the child that may have a key -/
theorem child_sides {cs : List Nd} {i : Nat} {c : Nd} {k : Bs} (hah : cs.Pairwise Ahd) (hord : ∀ x ∈ cs, ∀ p ∈ x.l, ltB p.1 x.f = false) (hci : cs[i]? = some c) (hor : ltB k c.f = false ∨ i = 0) (hup : ∀ x ∈ cs.drop (i + 1), ltB k x.f = true) :
    (∀ p ∈ flat (cs.take i), ltB p.1 k = true) ∧ (∀ p ∈ flat (cs.drop (i + 1)), ltB k p.1 = true) ∧ flat cs = flat (cs.take i) ++ c.l ++ flat (cs.drop (i + 1)) := by
  have hsp := mid_split hci
  refine ⟨fun p hp => ?_, fun p hp => ?_, ?_⟩
  · obtain ⟨x, hx, hpx⟩ := flat_mem.1 hp
    rcases hor with h | rfl
    · have h2 := hah
      rw [hsp, List.append_assoc] at h2
      exact lt_leB (((List.pairwise_append.1 h2).2.2 x hx c (by simp)).2 p hpx) h
    · simp at hx
  · obtain ⟨x, hx, hpx⟩ := flat_mem.1 hp
    exact lt_leB (hup x hx) (hord x (List.mem_of_mem_drop hx) p hpx)
  · conv => lhs; rw [hsp]
    rw [flat_app, flat_app]
    simp [flat]

theorem exists_least {p : Nat → Prop} (h : ∃ d, p d) : ∃ d, p d ∧ ∀ e, p e → d ≤ e := by
  obtain ⟨d, hd⟩ := h
  induction d using Nat.strongRecOn with
  | _ d ih =>
    by_cases hx : ∃ e, e < d ∧ p e
    · obtain ⟨e, he, hp⟩ := hx
      exact ih e he hp
    · exact ⟨d, hd, fun e he => Nat.le_of_not_lt fun hlt => hx ⟨e, hlt, he⟩⟩
open Classical in
/-- the least number of which something holds -/
noncomputable def least (p : Nat → Prop) : Nat := if h : ∃ d, p d then Classical.choose (exists_least h) else 0
theorem least_spec {p : Nat → Prop} (h : ∃ d, p d) : p (least p) := by
  unfold least
  rw [dif_pos h]
  exact (Classical.choose_spec (exists_least h)).1
theorem least_le {p : Nat → Prop} {d : Nat} (h : p d) : least p ≤ d := by
  unfold least
  rw [dif_pos ⟨d, h⟩]
  exact (Classical.choose_spec (exists_least ⟨d, h⟩)).2 d h

/-- how many pairs or children a node has -/
theorem NdAt.count {w : World} {F : Nat → Prop} : ∀ {d m M b : Nat} {f : Bs} {l : List KV}, NdAt w F d m M b f l → ∃ n, m ≤ n ∧ n ≤ M ∧ NdAt w F d n n b f l
  | 0, _, _, _, _, _, ⟨fo, fc, po, pc, co, cc, ps, h1, h2, h3, h4, h5, h6, h7, h8, h9, h10, h11, h11', h12, h13⟩ => ⟨ps.length, h11', h12, fo, fc, po, pc, co, cc, ps, h1, h2, h3, h4, h5, h6, h7, h8, h9, h10, h11, Nat.le_refl _, Nat.le_refl _, h13⟩
  | _ + 1, _, _, _, _, _, ⟨fo, fc, po, pc, co, cc, cs, h1, h2, h3, h4, h5, h6, h7, h8, h9, h10, h11, h11', h12, h13⟩ => ⟨cs.length, h11', h12, fo, fc, po, pc, co, cc, cs, h1, h2, h3, h4, h5, h6, h7, h8, h9, h10, h11, Nat.le_refl _, Nat.le_refl _, h13⟩
theorem nsize_n {w : World} {F : Nat → Prop} : ∀ {d n b : Nat} {f : Bs} {l : List KV}, NdAt w F d n n b f l →
    Calls Tryd.prog 39 #[.pointer (some ⟨b, 0, none⟩)] w fun e w' => e = .returned (.int .i64 (n : Nat)) ∧ Keeps [] w w'
  | 0, n, _, _, _, ⟨fo, fc, po, pc, co, cc, ps, h1, h2, h3, h4, h5, h6, h7, h8, h9, h10, h11, h11', h12, h13⟩ => by
    obtain rfl : n = ps.length := by omega
    have := nsize h1
    rwa [Nat.max_eq_left (by omega)] at this
  | _ + 1, n, _, _, _, ⟨fo, fc, po, pc, co, cc, cs, h1, h2, h3, h4, h5, h6, h7, h8, h9, h10, h11, h11', h12, h13⟩ => by
    obtain rfl : n = cs.length := by omega
    have := nsize h1
    rwa [Nat.max_eq_right (by omega)] at this
end Go.Proofs.YtknnhnpcgefchaaDoor
