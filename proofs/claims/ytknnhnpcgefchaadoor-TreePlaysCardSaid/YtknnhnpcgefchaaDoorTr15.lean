/- A tree's nodes: put, of an inner one. -/
import Derived.Test.YtknnhnpcgefchaaDoorTr14

namespace Go.Proofs.YtknnhnpcgefchaaDoor
open Go.RowKit Go.Lib

theorem parts_up {c : Nd} {x : Bs} {parts : List Nd} {k v : Bs} (hkx : ltB k x = true) (hcx : ∀ p ∈ c.l, ltB p.1 x = true) (hpf : flat parts = ins k v c.l) (hpn : ∀ y ∈ parts, y.l ≠ [] ∧ ∀ p ∈ y.l, ltB p.1 y.f = false) :
    ∀ y ∈ parts, ltB y.f x = true ∧ ∀ p ∈ y.l, ltB p.1 x = true := by
  intro y hy
  have hall : ∀ p ∈ y.l, ltB p.1 x = true := fun p hp => by
    have hm : p ∈ ins k v c.l := by rw [← hpf]; exact flat_mem.2 ⟨y, hy, hp⟩
    rcases ins_mem hm with rfl | hm
    · exact hkx
    · exact hcx p hm
  refine ⟨?_, hall⟩
  obtain ⟨h1, h2⟩ := hpn y hy
  cases hl : y.l with
  | nil => exact absurd hl h1
  | cons p q =>
    have hp : p ∈ y.l := by rw [hl]; exact List.mem_cons_self
    exact leB_lt (h2 p hp) (hall p hp)
/-- one child's place is taken by others: the order stays -/
theorem put_ahd {cs parts : List Nd} {i : Nat} {c : Nd} {k v : Bs} {f : Bs} (hah : cs.Pairwise Ahd) (hci : cs[i]? = some c) (hkc : ltB k c.f = false) (hup : ∀ x ∈ cs.drop (i + 1), ltB k x.f = true) (hord : ∀ x ∈ cs, ∀ p ∈ x.l, ltB p.1 x.f = false)
    (hhd : cs.head?.map Nd.f = some f) (hpa : parts.Pairwise Ahd) (hph : parts.head?.map Nd.f = some c.f) (hpf : flat parts = ins k v c.l) (hpn : ∀ y ∈ parts, y.l ≠ [] ∧ ∀ p ∈ y.l, ltB p.1 y.f = false) :
    (cs.take i ++ parts ++ cs.drop (i + 1)).Pairwise Ahd ∧ flat (cs.take i ++ parts ++ cs.drop (i + 1)) = ins k v (flat cs) ∧ (cs.take i ++ parts ++ cs.drop (i + 1)).head?.map Nd.f = some f := by
  have hil := (List.getElem?_eq_some_iff.1 hci).1
  have hdi : cs.drop i = c :: cs.drop (i + 1) := by
    rw [List.drop_eq_getElem_cons hil]
    congr 1
    exact (List.getElem?_eq_some_iff.1 hci).2
  have hsp : cs = cs.take i ++ c :: cs.drop (i + 1) := by rw [← hdi, List.take_append_drop]
  have h2 := hah
  rw [hsp] at h2
  obtain ⟨a1, a2, a3⟩ := List.pairwise_append.1 h2
  obtain ⟨b1, b2⟩ := List.pairwise_cons.1 a2
  have hup2 : ∀ x ∈ cs.drop (i + 1), ∀ y ∈ parts, Ahd y x := fun x hx y hy => parts_up (hup x hx) (b1 x hx).2 hpf hpn y hy
  have hpge : ∀ y ∈ parts, ltB y.f c.f = false := by
    cases parts with
    | nil => simp
    | cons z zs =>
      simp at hph
      intro y hy
      rcases List.mem_cons.1 hy with rfl | hy
      · rw [hph]; exact ltB_irr _
      · have := ((List.pairwise_cons.1 hpa).1 y hy).1
        rw [hph] at this
        exact ltB_asymm this
  have hlo : ∀ x ∈ cs.take i, ∀ y ∈ parts, Ahd x y := fun x hx y hy => by
    have := a3 x hx c List.mem_cons_self
    exact ⟨lt_leB this.1 (hpge y hy), fun p hp => lt_leB (this.2 p hp) (hpge y hy)⟩
  refine ⟨?_, ?_, ?_⟩
  · refine List.pairwise_append.2 ⟨List.pairwise_append.2 ⟨a1, hpa, hlo⟩, b2, fun x hx y hy => ?_⟩
    rcases List.mem_append.1 hx with hx | hx
    · exact a3 x hx y (List.mem_cons_of_mem _ hy)
    · exact hup2 y hy x hx
  · have e : flat cs = flat (cs.take i) ++ c.l ++ flat (cs.drop (i + 1)) := by
      conv => lhs; rw [hsp]
      rw [flat_app, flat_cons, List.append_assoc]
    rw [flat_app, flat_app, hpf, e]
    refine (ins_mid (fun p hp => ?_) (fun p hp => ?_)).symm
    · obtain ⟨x, hx, hpx⟩ := flat_mem.1 hp
      exact lt_leB ((a3 x hx c List.mem_cons_self).2 p hpx) hkc
    · obtain ⟨x, hx, hpx⟩ := flat_mem.1 hp
      exact lt_leB (hup x hx) (hord x (List.mem_of_mem_drop hx) p hpx)
  · cases i with
    | zero =>
      have hc : c.f = f := by
        cases cs with
        | nil => simp at hil
        | cons z zs => simp at hci hhd; rw [← hci, hhd]
      cases parts with
      | nil => simp at hph
      | cons z zs => simpa [hc] using hph
    | succ i =>
      cases cs with
      | nil => simp at hil
      | cons z zs => simpa using hhd
end Go.Proofs.YtknnhnpcgefchaaDoor
