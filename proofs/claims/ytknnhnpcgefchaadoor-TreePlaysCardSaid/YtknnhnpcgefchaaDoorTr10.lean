/- Nodes of a tree in memory. -/
import Derived.Test.YtknnhnpcgefchaaDoorTr6
import Derived.Test.YtknnhnpcgefchaaDoorTr7
import Derived.Test.YtknnhnpcgefchaaDoorTr9

namespace Go.Proofs.YtknnhnpcgefchaaDoor
open Go.RowKit Go.Lib

/-- an address that has something lies in a block of F -/
def Fr (F : Nat → Prop) (ao : Option Addr) (xs : List Value) : Prop := ∀ ad, ao = some ad → xs ≠ [] → F ad.block
theorem Fr.nil (F : Nat → Prop) (ao : Option Addr) : Fr F ao [] := fun _ _ h => absurd rfl h
theorem Fr.no (F : Nat → Prop) (xs : List Value) : Fr F none xs := fun _ h => by cases h
theorem Fr.mono {F F' : Nat → Prop} {ao : Option Addr} {xs : List Value} {w : World} {sz n c : Nat} (h : Fr F ao xs) (hS : Sl w sz ao n c xs) (hF : ∀ x, F x → x < w.heap.size → F' x) : Fr F' ao xs := fun ad e hx => hF _ (h ad e hx) (hS.lt e hx)
theorem Sl.keepF {w w' : World} {sz n c : Nat} {ao : Option Addr} {xs : List Value} {F : Nat → Prop} {L : List Nat} (h : Sl w sz ao n c xs) (hf : Fr F ao xs) (hk : Keeps L w w') (hL : ∀ x ∈ L, ¬ F x) : Sl w' sz ao n c xs := h.keep hk fun ad e hx hm => hL _ hm (hf ad e hx)
/-- what was in F, and what was made since -/
def Grown (F : Nat → Prop) (w : World) : Nat → Prop := fun x => F x ∨ w.heap.size ≤ x

def prs (ps : List Pr) : List Value := (ps.map fun p => p.cells.toList).flatten
def kvs (ps : List Pr) : List KV := ps.map fun p => (p.k, p.v)
theorem prs_length (ps : List Pr) : (prs ps).length = ps.length * 2 := by
  induction ps with
  | nil => rfl
  | cons p ps ih => simp only [prs, List.map_cons, List.flatten_cons, List.length_append, List.length_cons] at ih ⊢; rw [ih]; simp; omega
theorem prs_app (a b : List Pr) : prs (a ++ b) = prs a ++ prs b := by simp [prs]
theorem prs_cons (p : Pr) (b : List Pr) : prs (p :: b) = p.cells.toList ++ prs b := by simp [prs]
theorem prs_one (ps : List Pr) : ∀ u ∈ prs ps, u.oneCell' = true := by
  intro u hu
  unfold prs at hu
  rw [List.mem_flatten] at hu
  obtain ⟨l, hl, hu⟩ := hu
  obtain ⟨p, _, rfl⟩ := List.mem_map.1 hl
  simp at hu
  rcases hu with rfl | rfl <;> rfl
theorem prs_take (ps : List Pr) (k : Nat) : (prs ps).take (k * 2) = prs (ps.take k) := by
  induction ps generalizing k with
  | nil => simp [prs]
  | cons p ps ih =>
    cases k with
    | zero => simp [prs]
    | succ k =>
      rw [prs_cons, List.take_succ_cons, prs_cons, ← ih, show (k + 1) * 2 = p.cells.toList.length + k * 2 by simp; omega, List.take_length_add_append]
theorem prs_drop (ps : List Pr) (k : Nat) : (prs ps).drop (k * 2) = prs (ps.drop k) := by
  induction ps generalizing k with
  | nil => simp [prs]
  | cons p ps ih =>
    cases k with
    | zero => simp
    | succ k =>
      rw [prs_cons, List.drop_succ_cons, ← ih, show (k + 1) * 2 = p.cells.toList.length + k * 2 by simp; omega, List.drop_length_add_append]
theorem prs_at (ps : List Pr) (i : Nat) (p : Pr) (h : ps[i]? = some p) : ∀ j v, p.cells.toList[j]? = some v → (prs ps)[i * 2 + j]? = some v := by
  intro j v hj
  have hlt := (List.getElem?_eq_some_iff.1 h).1
  have hj2 : j < 2 := by
    have := (List.getElem?_eq_some_iff.1 hj).1
    simpa using this
  rw [← List.getElem?_drop, prs_drop]
  have : ps.drop i = p :: ps.drop (i + 1) := by
    rw [List.drop_eq_getElem_cons hlt]
    congr 1
    exact (List.getElem?_eq_some_iff.1 h).2
  rw [this, prs_cons, List.getElem?_append_left (by simpa using hj2)]
  exact hj
theorem kvs_length (ps : List Pr) : (kvs ps).length = ps.length := by simp [kvs]

/-- a pair's bytes, in F -/
structure PrOk (w : World) (F : Nat → Prop) (p : Pr) : Prop where
  k : Rb w p.ka p.kc p.k
  v : Rb w p.va p.vc p.v
  fk : Fr F p.ka (bys p.k)
  fv : Fr F p.va (bys p.v)
  lk : p.k.length ≤ 1000000
  lv : p.v.length ≤ 1000000
section
variable {w w' : World} {F F' : Nat → Prop} {p : Pr} {L : List Nat}
theorem PrOk.keep (h : PrOk w F p) (hk : Keeps L w w') (hL : ∀ x ∈ L, ¬ F x) : PrOk w' F p := ⟨h.k.keepF h.fk hk hL, h.v.keepF h.fv hk hL, h.fk, h.fv, h.lk, h.lv⟩
theorem PrOk.keep0 (h : PrOk w F p) (hk : Keeps [] w w') : PrOk w' F p := h.keep hk (by simp)
theorem PrOk.mono (h : PrOk w F p) (hF : ∀ x, F x → x < w.heap.size → F' x) : PrOk w F' p := ⟨h.k, h.v, h.fk.mono h.k hF, h.fv.mono h.v hF, h.lk, h.lv⟩
theorem PrOk.at (h : PrOk w F p) : PrAt w p := ⟨h.k, h.v⟩
end

/-- a node: its block, its least key, its pairs -/
structure Nd where
  b : Nat
  f : Bs
  l : List KV
def ptrs (cs : List Nd) : List Value := cs.map fun c => .pointer (some ⟨c.b, 0, none⟩)
def flat (cs : List Nd) : List KV := (cs.map Nd.l).flatten
@[simp] theorem ptrs_length (cs : List Nd) : (ptrs cs).length = cs.length := by simp [ptrs]
theorem ptrs_app (a b : List Nd) : ptrs (a ++ b) = ptrs a ++ ptrs b := by simp [ptrs]
theorem ptrs_one (cs : List Nd) : ∀ u ∈ ptrs cs, u.oneCell' = true := by
  intro u hu
  obtain ⟨c, _, rfl⟩ := List.mem_map.1 hu
  rfl
theorem flat_app (a b : List Nd) : flat (a ++ b) = flat a ++ flat b := by simp [flat]
theorem flat_cons (c : Nd) (b : List Nd) : flat (c :: b) = c.l ++ flat b := by simp [flat]
theorem flat_mem {p : KV} {cs : List Nd} : p ∈ flat cs ↔ ∃ c ∈ cs, p ∈ c.l := by
  unfold flat
  rw [List.mem_flatten]
  constructor
  · rintro ⟨l, hl, hp⟩
    obtain ⟨c, hc, rfl⟩ := List.mem_map.1 hl
    exact ⟨c, hc, hp⟩
  · rintro ⟨c, hc, hp⟩
    exact ⟨c.l, List.mem_map_of_mem hc, hp⟩
/-- one stands ahead of another -/
def Ahd (a b : Nd) : Prop := ltB a.f b.f = true ∧ ∀ p ∈ a.l, ltB p.1 b.f = true

/-- node b, at depth d ahead of the leaves, of m to M pairs or children (of 4 to 16 below), with least key f and pairs l; all in F -/
def NdAt (w : World) (F : Nat → Prop) : Nat → Nat → Nat → Nat → Bs → List KV → Prop
  | 0, m, M, b, f, l => ∃ fo fc po pc co cc ps, Blk w b 55 #[.slice fo f.length fc, .slice po (List.length ps) pc, .slice co 0 cc] ∧ F b ∧ Rb w fo fc f ∧ Fr F fo (bys f) ∧ Sl w 2 po (List.length ps) pc (prs ps) ∧ Fr F po (prs ps) ∧ Sl w 1 co 0 cc [] ∧
      (∀ p ∈ ps, PrOk w F p) ∧ kvs ps = l ∧ Srt l ∧ (∀ p ∈ l, ltB p.1 f = false) ∧ m ≤ List.length ps ∧ List.length ps ≤ M ∧ f.length ≤ 1000000
  | d + 1, m, M, b, f, l => ∃ fo fc po pc co cc cs, Blk w b 55 #[.slice fo f.length fc, .slice po 0 pc, .slice co (List.length cs) cc] ∧ F b ∧ Rb w fo fc f ∧ Fr F fo (bys f) ∧ Sl w 2 po 0 pc [] ∧ Sl w 1 co (List.length cs) cc (ptrs cs) ∧ Fr F co (ptrs cs) ∧
      (∀ c ∈ cs, NdAt w F d 4 16 c.b c.f c.l) ∧ flat cs = l ∧ cs.Pairwise Ahd ∧ (cs.head?.map Nd.f) = some f ∧ m ≤ List.length cs ∧ List.length cs ≤ M ∧ f.length ≤ 1000000
section
variable {w w' : World} {F F' : Nat → Prop} {L : List Nat}
theorem NdAt.keep (hk : Keeps L w w') (hL : ∀ x ∈ L, ¬ F x) : ∀ {d m M b : Nat} {f : Bs} {l : List KV}, NdAt w F d m M b f l → NdAt w' F d m M b f l
  | 0, _, _, _, _, _, ⟨fo, fc, po, pc, co, cc, ps, h1, h2, h3, h4, h5, h6, h7, h8, h9⟩ =>
    ⟨fo, fc, po, pc, co, cc, ps, h1.keep hk (fun hm => hL _ hm h2), h2, h3.keepF h4 hk hL, h4, h5.keepF h6 hk hL, h6, h7.keep hk (fun _ _ hx => absurd rfl hx), fun p hp => (h8 p hp).keep hk hL, h9⟩
  | _ + 1, _, _, _, _, _, ⟨fo, fc, po, pc, co, cc, cs, h1, h2, h3, h4, h5, h6, h7, h8, h9⟩ =>
    ⟨fo, fc, po, pc, co, cc, cs, h1.keep hk (fun hm => hL _ hm h2), h2, h3.keepF h4 hk hL, h4, h5.keep hk (fun _ _ hx => absurd rfl hx), h6.keepF h7 hk hL, h7, fun c hc => NdAt.keep hk hL (h8 c hc), h9⟩
theorem NdAt.keep0 (hk : Keeps [] w w') {d m M b : Nat} {f : Bs} {l : List KV} (h : NdAt w F d m M b f l) : NdAt w' F d m M b f l := h.keep hk (by simp)
theorem NdAt.mono (hF : ∀ x, F x → x < w.heap.size → F' x) : ∀ {d m M b : Nat} {f : Bs} {l : List KV}, NdAt w F d m M b f l → NdAt w F' d m M b f l
  | 0, _, _, _, _, _, ⟨fo, fc, po, pc, co, cc, ps, h1, h2, h3, h4, h5, h6, h7, h8, h9⟩ =>
    ⟨fo, fc, po, pc, co, cc, ps, h1, hF _ h2 h1.lt, h3, h4.mono h3 hF, h5, h6.mono h5 hF, h7, fun p hp => (h8 p hp).mono hF, h9⟩
  | _ + 1, _, _, _, _, _, ⟨fo, fc, po, pc, co, cc, cs, h1, h2, h3, h4, h5, h6, h7, h8, h9⟩ =>
    ⟨fo, fc, po, pc, co, cc, cs, h1, hF _ h2 h1.lt, h3, h4.mono h3 hF, h5, h6, h7.mono h6 hF, fun c hc => NdAt.mono hF (h8 c hc), h9⟩
theorem NdAt.grow {d m M b : Nat} {f : Bs} {l : List KV} (w0 : World) (h : NdAt w F d m M b f l) : NdAt w (Grown F w0) d m M b f l := h.mono fun _ hx _ => .inl hx
theorem NdAt.more {m m' M M' : Nat} (hm : m' ≤ m) (hM : M ≤ M') : ∀ {d b : Nat} {f : Bs} {l : List KV}, NdAt w F d m M b f l → NdAt w F d m' M' b f l
  | 0, _, _, _, ⟨fo, fc, po, pc, co, cc, ps, h1, h2, h3, h4, h5, h6, h7, h8, h9, h10, h11, h11', h12, h13⟩ => ⟨fo, fc, po, pc, co, cc, ps, h1, h2, h3, h4, h5, h6, h7, h8, h9, h10, h11, Nat.le_trans hm h11', Nat.le_trans h12 hM, h13⟩
  | _ + 1, _, _, _, ⟨fo, fc, po, pc, co, cc, cs, h1, h2, h3, h4, h5, h6, h7, h8, h9, h10, h11, h11', h12, h13⟩ => ⟨fo, fc, po, pc, co, cc, cs, h1, h2, h3, h4, h5, h6, h7, h8, h9, h10, h11, Nat.le_trans hm h11', Nat.le_trans h12 hM, h13⟩
theorem NdAt.lt : ∀ {d m M b : Nat} {f : Bs} {l : List KV}, NdAt w F d m M b f l → b < w.heap.size
  | 0, _, _, _, _, _, ⟨_, _, _, _, _, _, _, h1, _⟩ => h1.lt
  | _ + 1, _, _, _, _, _, ⟨_, _, _, _, _, _, _, h1, _⟩ => h1.lt

/-- children in order: all their pairs are -/
theorem flat_srt : ∀ {cs : List Nd}, cs.Pairwise Ahd → (∀ c ∈ cs, Srt c.l ∧ ∀ p ∈ c.l, ltB p.1 c.f = false) → Srt (flat cs)
  | [], _, _ => Srt.nil
  | c :: cs, hp, h => by
    obtain ⟨h1, h2⟩ := List.pairwise_cons.1 hp
    rw [flat_cons]
    refine Srt.app.2 ⟨(h c List.mem_cons_self).1, flat_srt h2 fun x hx => h x (List.mem_cons_of_mem _ hx), fun p hpc q hq => ?_⟩
    obtain ⟨x, hx, hqx⟩ := flat_mem.1 hq
    exact lt_leB ((h1 x hx).2 p hpc) ((h x (List.mem_cons_of_mem _ hx)).2 q hqx)
theorem flat_ge : ∀ {cs : List Nd} {f : Bs}, cs.Pairwise Ahd → cs.head?.map Nd.f = some f → (∀ c ∈ cs, ∀ p ∈ c.l, ltB p.1 c.f = false) → ∀ p ∈ flat cs, ltB p.1 f = false
  | [], _, _, hh, _, _, _ => by simp at hh
  | c :: cs, f, hp, hh, h, p, hm => by
    simp at hh
    subst hh
    obtain ⟨h1, h2⟩ := List.pairwise_cons.1 hp
    rw [flat_cons] at hm
    rcases List.mem_append.1 hm with hm | hm
    · exact h c List.mem_cons_self p hm
    · obtain ⟨x, hx, hpx⟩ := flat_mem.1 hm
      exact leB_trans (ltB_asymm (h1 x hx).1) (h x (List.mem_cons_of_mem _ hx) p hpx)
theorem NdAt.ord : ∀ {d m M b : Nat} {f : Bs} {l : List KV}, NdAt w F d m M b f l → Srt l ∧ ∀ p ∈ l, ltB p.1 f = false
  | 0, _, _, _, _, _, ⟨_, _, _, _, _, _, _, _, _, _, _, _, _, _, _, _, h10, h11, _⟩ => ⟨h10, h11⟩
  | _ + 1, _, _, _, _, _, ⟨_, _, _, _, _, _, cs, _, _, _, _, _, _, _, h8, h9, h10, h11, _⟩ =>
    have hc : ∀ c ∈ cs, Srt c.l ∧ ∀ p ∈ c.l, ltB p.1 c.f = false := fun c hc => NdAt.ord (h8 c hc)
    ⟨h9 ▸ flat_srt h10 hc, h9 ▸ flat_ge h10 h11 fun c h => (hc c h).2⟩
theorem NdAt.flen : ∀ {d m M b : Nat} {f : Bs} {l : List KV}, NdAt w F d m M b f l → f.length ≤ 1000000
  | 0, _, _, _, _, _, ⟨_, _, _, _, _, _, _, _, _, _, _, _, _, _, _, _, _, _, _, _, h⟩ => h
  | _ + 1, _, _, _, _, _, ⟨_, _, _, _, _, _, _, _, _, _, _, _, _, _, _, _, _, _, _, _, h⟩ => h
/-- a node with something in it has pairs -/
theorem NdAt.ne : ∀ {d m M b : Nat} {f : Bs} {l : List KV}, NdAt w F d m M b f l → 1 ≤ m → l ≠ []
  | 0, _, _, _, _, _, ⟨_, _, _, _, _, _, ps, _, _, _, _, _, _, _, _, h9, _, _, h12, _⟩, hm => by
    rintro rfl
    have := congrArg List.length h9
    rw [kvs_length] at this
    simp at this
    subst this
    simp at h12
    omega
  | _ + 1, _, _, _, _, _, ⟨_, _, _, _, _, _, cs, _, _, _, _, _, _, _, h8, h9, _, _, h12, _⟩, hm => by
    cases cs with
    | nil => simp at h12; omega
    | cons c cs =>
      have := NdAt.ne (h8 c List.mem_cons_self) (by omega)
      rw [← h9, flat_cons]
      simp [this]
/-- a node's block and its first, whatever its depth -/
theorem NdAt.first : ∀ {d m M b : Nat} {f : Bs} {l : List KV}, NdAt w F d m M b f l → ∃ fo fc v1 v2, Blk w b 55 #[.slice fo f.length fc, v1, v2] ∧ Rb w fo fc f ∧ Fr F fo (bys f)
  | 0, _, _, _, _, _, ⟨fo, fc, _, _, _, _, _, h1, _, h3, h4, _⟩ => ⟨fo, fc, _, _, h1, h3, h4⟩
  | _ + 1, _, _, _, _, _, ⟨fo, fc, _, _, _, _, _, h1, _, h3, h4, _⟩ => ⟨fo, fc, _, _, h1, h3, h4⟩
end
end Go.Proofs.YtknnhnpcgefchaaDoor
