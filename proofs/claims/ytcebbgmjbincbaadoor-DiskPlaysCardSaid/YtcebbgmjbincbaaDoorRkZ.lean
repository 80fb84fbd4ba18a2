/- The document's disk as plain data: files in the order of their names, beside the disk's. -/
import Derived.Test.YtcebbgmjbincbaaDoorDk9
import Derived.Test.YtcebbgmjbincbaaDoorTr2
import Derived.Test.YtcebbgmjbincbaaDoorLit
namespace Go.Proofs.YtcebbgmjbincbaaDoor
open Go.RowKit Go.Lib

section
variable {α : Type}
theorem mget_perm_del {s : List UInt8} {v : α} : ∀ {gs : List (List UInt8 × α)}, mget s gs = some v → gs.Perm ((s, v) :: mdel s gs)
  | [], h => by simp [mget] at h
  | g :: r, h => by
    unfold mget at h
    by_cases e : g.1 = s
    · rw [if_pos e] at h
      obtain rfl := Option.some.inj h
      subst e
      simp [mdel]
    · rw [if_neg e] at h
      simp only [mdel, if_neg e]
      exact ((mget_perm_del h).cons g).trans (List.Perm.swap _ _ _)
theorem mput_perm_some {s : List UInt8} {v u : α} : ∀ {gs : List (List UInt8 × α)}, mget s gs = some v → (mput s u gs).Perm ((s, u) :: mdel s gs)
  | [], h => by simp [mget] at h
  | g :: r, h => by
    unfold mget at h
    by_cases e : g.1 = s
    · simp [mput, mdel, e]
    · rw [if_neg e] at h
      simp only [mput, mdel, if_neg e]
      exact ((mput_perm_some h).cons g).trans (List.Perm.swap _ _ _)
theorem mput_perm_none {s : List UInt8} {u : α} : ∀ {gs : List (List UInt8 × α)}, mget s gs = none → (mput s u gs).Perm ((s, u) :: gs)
  | [], _ => by simp [mput]
  | g :: r, h => by
    unfold mget at h
    by_cases e : g.1 = s
    · rw [if_pos e] at h; cases h
    · rw [if_neg e] at h
      simp only [mput, if_neg e]
      exact ((mput_perm_none h).cons g).trans (List.Perm.swap _ _ _)
theorem erase_perm {β : Type} {fs : List β} {i : Nat} {x : β} (h : fs[i]? = some x) : fs.Perm (x :: fs.eraseIdx i) := by
  obtain ⟨hi, rfl⟩ := List.getElem?_eq_some_iff.1 h
  induction fs generalizing i with
  | nil => simp at hi
  | cons a r ih =>
    cases i with
    | zero => simp
    | succ i =>
      simp only [List.getElem_cons_succ, List.eraseIdx_cons_succ]
      have hi' : i < r.length := by simpa using hi
      exact ((ih hi' (List.getElem?_eq_getElem hi')).cons a).trans (List.Perm.swap _ _ _)
theorem set_perm {β : Type} {fs : List β} {i : Nat} {x y : β} (h : fs[i]? = some x) : (fs.set i y).Perm (y :: fs.eraseIdx i) := by
  obtain ⟨hi, rfl⟩ := List.getElem?_eq_some_iff.1 h
  have h2 : (fs.set i y)[i]? = some y := by simp [hi]
  have := erase_perm h2
  rwa [List.eraseIdx_set_eq] at this

end
abbrev Fs := List (List UInt8 × Fil)
/-- files in the order of their names, beside files in whatever order -/
structure Alike (fs gs : Fs) : Prop where
  perm : fs.Perm gs
  srt : (fs.map (·.1)).Pairwise fun x y => x < y
theorem lt_ne {x y : List UInt8} (h : x < y) : x ≠ y := by rintro rfl; exact List.lt_irrefl x h
theorem srt_nodup {l : List (List UInt8)} (h : l.Pairwise fun x y => x < y) : l.Nodup := h.imp fun h => lt_ne h
/-- equal numbers: sorted permutations are one list -/
theorem srt_eq : ∀ {l m : List (List UInt8)}, l.Perm m → (l.Pairwise fun x y => x < y) → (m.Pairwise fun x y => x ≤ y) → l = m
  | [], m, h, _, _ => by simpa using h.symm.eq_nil
  | a :: l, [], h, _, _ => by simpa using h.eq_nil
  | a :: l, b :: m, h, hl, hm => by
    have hab : a = b := by
      have h1 : a ∈ b :: m := h.mem_iff.1 (.head _)
      have h2 : b ∈ a :: l := h.mem_iff.2 (.head _)
      rcases List.mem_cons.1 h1 with rfl | h1
      · rfl
      rcases List.mem_cons.1 h2 with rfl | h2
      · rfl
      have h3 : a < b := (List.pairwise_cons.1 hl).1 b h2
      have h4 : b ≤ a := (List.pairwise_cons.1 hm).1 a h1
      exact absurd h3 (List.not_lt.2 h4)
    subst hab
    rw [srt_eq h.cons_inv (List.pairwise_cons.1 hl).2 (List.pairwise_cons.1 hm).2]
section
variable {fs gs gs' : Fs} {n : List UInt8} {f f0 : Fil} {i : Nat}
theorem Alike.nil : Alike [] [] := ⟨List.Perm.refl _, by simp⟩
theorem Alike.nodup (h : Alike fs gs) : (gs.map (·.1)).Nodup := (h.perm.map _).nodup_iff.1 (srt_nodup h.srt)
theorem Alike.of (h : Alike fs gs) (hp : gs.Perm gs') : Alike fs gs' := ⟨h.perm.trans hp, h.srt⟩
theorem Alike.length (h : Alike fs gs) : fs.length = gs.length := h.perm.length_eq
theorem Alike.get (h : Alike fs gs) (hi : fs[i]? = some (n, f)) : mget n gs = some f :=
  mget_of_mem h.nodup (h.perm.mem_iff.1 (List.mem_of_getElem? hi))
theorem Alike.none (h : Alike fs gs) (hi : ∀ x ∈ fs, x.1 ≠ n) : mget n gs = none := mget_none.2 fun x hx => hi x (h.perm.mem_iff.2 hx)
theorem Alike.idx (h : Alike fs gs) : (∃ i f, fs[i]? = some (n, f) ∧ mget n gs = some f ∧ ∀ (j : Nat) (x : List UInt8 × Fil), j < i → fs[j]? = some x → x.1 ≠ n) ∨ (mget n gs = .none ∧ ∀ x ∈ fs, x.1 ≠ n) := by
  cases hm : mget n gs with
  | none => exact .inr ⟨rfl, fun x hx => mget_none.1 hm x (h.perm.mem_iff.1 hx)⟩
  | some f =>
    obtain ⟨i, hi⟩ := List.getElem?_of_mem (h.perm.mem_iff.2 (mget_mem hm))
    refine .inl ⟨i, f, hi, rfl, fun j x hj hx e => ?_⟩
    have hn := srt_nodup h.srt
    have h1 : (fs.map (·.1))[j]? = some x.1 := by rw [List.getElem?_map, hx]; rfl
    have h2 : (fs.map (·.1))[i]? = some n := by rw [List.getElem?_map, hi]; rfl
    have := (List.getElem?_inj (i := j) (j := i) (List.getElem?_eq_some_iff.1 h1).1 hn).1 (by rw [h1, h2, e])
    omega
theorem Alike.set (h : Alike fs gs) (hi : fs[i]? = some (n, f0)) : Alike (fs.set i (n, f)) (mput n f gs) := by
  have hg := h.get hi
  refine ⟨?_, ?_⟩
  · have h1 := (erase_perm hi).symm.trans (h.perm.trans (mget_perm_del hg))
    exact (set_perm hi).trans ((h1.cons_inv.cons _).trans (mput_perm_some hg).symm)
  · have e : (fs.set i (n, f)).map (·.1) = fs.map (·.1) := by
      rw [List.map_set]
      apply List.ext_getElem?
      intro j
      rw [List.getElem?_set]
      by_cases e : i = j
      · subst e
        obtain ⟨hl, hi⟩ := List.getElem?_eq_some_iff.1 hi
        simp [hl, hi]
      · simp [e]
    rw [e]; exact h.srt
theorem Alike.del (h : Alike fs gs) (hi : fs[i]? = some (n, f0)) : Alike (fs.eraseIdx i) (mdel n gs) := by
  have hg := h.get hi
  refine ⟨((erase_perm hi).symm.trans (h.perm.trans (mget_perm_del hg))).cons_inv, ?_⟩
  exact h.srt.sublist ((List.eraseIdx_sublist fs i).map _)
theorem Alike.add (h : Alike fs gs) (hm : mget n gs = .none) (hlo : ∀ (j : Nat) (x : List UInt8 × Fil), j < i → fs[j]? = some x → x.1 < n) (hhi : ∀ x : List UInt8 × Fil, fs[i]? = some x → ¬ x.1 < n) : Alike (fs.take i ++ (n, f) :: fs.drop i) (mput n f gs) := by
  have hne : ∀ x ∈ fs, x.1 ≠ n := fun x hx => mget_none.1 hm x (h.perm.mem_iff.1 hx)
  refine ⟨?_, ?_⟩
  · refine List.perm_middle.trans ?_
    rw [List.take_append_drop]
    exact ((h.perm).cons _).trans (mput_perm_none hm).symm
  · rw [List.map_append, List.map_cons, List.pairwise_append, List.pairwise_cons]
    have hs := h.srt
    have hs2 := hs
    rw [← List.take_append_drop i fs, List.map_append, List.pairwise_append] at hs2
    have hlow : ∀ x ∈ (fs.take i).map (·.1), x < n := by
      intro x hx
      obtain ⟨p, hp, rfl⟩ := List.mem_map.1 hx
      obtain ⟨j, hj⟩ := List.getElem?_of_mem hp
      rw [List.getElem?_take] at hj
      by_cases e : j < i
      · rw [if_pos e] at hj; exact hlo j p e hj
      · rw [if_neg e] at hj; cases hj
    have hhigh : ∀ x ∈ (fs.drop i).map (·.1), n < x := by
      cases hd : fs.drop i with
      | nil => simp
      | cons p r =>
        have hp : fs[i]? = some p := by
          have : (fs.drop i)[0]? = some p := by rw [hd]; rfl
          simpa using this
        have h1 : n < p.1 := by
          have h2 := List.not_lt.1 (hhi p hp)
          rcases List.le_iff_lt_or_eq.1 h2 with h3 | h3
          · exact h3
          · exact absurd h3.symm (hne p (List.mem_of_getElem? hp))
        intro x hx
        rw [hd] at hs2
        have h3 := hs2.2.1
        rw [List.map_cons, List.pairwise_cons] at h3
        rcases List.mem_cons.1 (by simpa only [List.map_cons] using hx) with rfl | hx
        · exact h1
        · exact List.lt_trans h1 (h3.1 x hx)
    refine ⟨hs2.1, ⟨hhigh, hs2.2.1⟩, fun x hx y hy => ?_⟩
    rcases List.mem_cons.1 hy with rfl | hy
    · exact hlow x hx
    · exact List.lt_trans (hlow x hx) (hhigh y hy)
theorem Alike.names (h : Alike fs gs) : (gs.map (·.1)).mergeSort (fun x y => decide (x ≤ y)) = fs.map (·.1) := by
  refine (srt_eq ?_ h.srt ?_).symm
  · exact ((List.mergeSort_perm _ _).trans (h.perm.map _).symm).symm
  · have := List.pairwise_mergeSort (le := fun x y : List UInt8 => decide (x ≤ y)) (by
      intro a b c h1 h2
      simp only [decide_eq_true_eq] at *
      exact List.le_trans h1 h2) (by
      intro a b
      simp only [Bool.or_eq_true, decide_eq_true_eq]
      exact List.le_total a b) (gs.map (·.1))
    exact this.imp fun h => by simpa using h
end

/-- the first i files have fallen -/
def crI (keep : List Int) (i : Nat) (fs : Fs) : Fs := fs.mapIdx fun j x => if j < i then (x.1, crashF keep j x.2) else x
section
variable {keep : List Int} {fs gs : Fs} {n : List UInt8} {f : Fil} {i : Nat}
theorem crI_zero : crI keep 0 fs = fs := by
  unfold crI
  apply List.ext_getElem?
  intro j
  simp
theorem crI_get (h : fs[i]? = some (n, f)) : (crI keep i fs)[i]? = some (n, f) := by
  simp [crI, h]
theorem crI_length : (crI keep i fs).length = fs.length := by simp [crI]
theorem crI_succ (h : fs[i]? = some (n, f)) : crI keep (i + 1) fs = (crI keep i fs).set i (n, crashF keep i f) := by
  unfold crI
  apply List.ext_getElem?
  intro j
  rw [List.getElem?_set, List.getElem?_mapIdx, List.getElem?_mapIdx]
  obtain ⟨hl, hi⟩ := List.getElem?_eq_some_iff.1 h
  by_cases e : i = j
  · subst e
    simp [hl, hi]
  · rw [if_neg e]
    cases hj : fs[j]? with
    | none => rfl
    | some x =>
      simp only [Option.map_some]
      by_cases e2 : j < i
      · rw [if_pos e2, if_pos (by omega)]
      · rw [if_neg e2, if_neg (by omega)]
theorem Alike.crash (h : Alike fs gs) (names : List (List UInt8)) (hn : names = fs.map (·.1)) : Alike (crI keep fs.length fs) (gs.map fun f => (f.1, crashF keep (names.idxOf f.1) f.2)) := by
  have e : crI keep fs.length fs = fs.map fun f => (f.1, crashF keep (names.idxOf f.1) f.2) := by
    unfold crI
    apply List.ext_getElem?
    intro j
    rw [List.getElem?_mapIdx, List.getElem?_map]
    cases hj : fs[j]? with
    | none => rfl
    | some x =>
      have hl := (List.getElem?_eq_some_iff.1 hj).1
      simp only [Option.map_some, if_pos hl]
      have hnd : names.Nodup := by rw [hn]; exact srt_nodup h.srt
      have h1 : names[j]? = some x.1 := by rw [hn, List.getElem?_map, hj]; rfl
      obtain ⟨hl2, h2⟩ := List.getElem?_eq_some_iff.1 h1
      have h3 : names.idxOf x.1 = j := by rw [← h2]; exact hnd.idxOf_getElem j hl2
      rw [h3]
  rw [e]
  refine ⟨h.perm.map _, ?_⟩
  have := h.srt
  rw [List.map_map]
  exact this
end
theorem Alike.used {fs gs : Fs} (h : Alike fs gs) : usedOf fs = usedOf gs := (h.perm.map _).sum_nat
theorem used_take {fs : Fs} {i : Nat} {x : List UInt8 × Fil} (h : fs[i]? = some x) : usedOf (fs.take (i + 1)) = usedOf (fs.take i) + x.2.b.length := by
  rw [List.take_add_one, h]
  simp [usedOf]
theorem used_take_le (fs : Fs) (i : Nat) : usedOf (fs.take i) ≤ usedOf fs := by
  have e : usedOf (fs.take i) + usedOf (fs.drop i) = usedOf fs := by
    unfold usedOf
    rw [← List.sum_append, ← List.map_append, List.take_append_drop]
  omega
end Go.Proofs.YtcebbgmjbincbaaDoor
/- The document's disk in memory: what reads it. -/

namespace Go.Proofs.YtcebbgmjbincbaaDoor
open Go.RowKit Go.Lib

/-- a file of the document in memory -/
structure RfM where
  n : List UInt8
  f : Fil
  ao : Option Addr
  c : Nat
def RfM.cells (x : RfM) : List Value := [.string ⟨x.n.toArray⟩, .slice x.ao x.f.b.length x.c, .int .i64 (x.f.sure : Nat)]
def rcs (fl : List RfM) : List Value := (fl.map RfM.cells).flatten
def RfM.kv (x : RfM) : List UInt8 × Fil := (x.n, x.f)
def rfs (fl : List RfM) : Fs := fl.map RfM.kv
theorem rfs_length (fl : List RfM) : (rfs fl).length = fl.length := by simp [rfs]
theorem rfs_at {fl : List RfM} {i : Nat} {x : RfM} (h : fl[i]? = some x) : (rfs fl)[i]? = some (x.n, x.f) := by simp [rfs, h, RfM.kv]
theorem rcs_length (m : List RfM) : (rcs m).length = m.length * 3 := by
  induction m with
  | nil => rfl
  | cons p m ih => simp only [rcs, List.map_cons, List.flatten_cons, List.length_append, List.length_cons] at ih ⊢; rw [ih]; simp [RfM.cells]; omega
theorem rcs_app (a b : List RfM) : rcs (a ++ b) = rcs a ++ rcs b := by simp [rcs]
theorem rcs_cons (p : RfM) (m : List RfM) : rcs (p :: m) = p.cells ++ rcs m := rfl
theorem rcs_oneC (m : List RfM) : ∀ u ∈ rcs m, u.oneCell' = true := by
  intro u hu
  unfold rcs at hu
  rw [List.mem_flatten] at hu
  obtain ⟨l, hl, hu⟩ := hu
  obtain ⟨p, _, rfl⟩ := List.mem_map.1 hl
  simp [RfM.cells] at hu
  rcases hu with rfl | rfl | rfl <;> rfl
theorem rcs_take (m : List RfM) (k : Nat) : (rcs m).take (k * 3) = rcs (m.take k) := by
  induction m generalizing k with
  | nil => simp [rcs]
  | cons p m ih =>
    cases k with
    | zero => simp [rcs]
    | succ k =>
      rw [rcs_cons, show (k + 1) * 3 = p.cells.length + k * 3 by simp [RfM.cells]; omega, List.take_length_add_append, ih]
      rfl
theorem rcs_drop (m : List RfM) (k : Nat) : (rcs m).drop (k * 3) = rcs (m.drop k) := by
  induction m generalizing k with
  | nil => simp [rcs]
  | cons p m ih =>
    cases k with
    | zero => simp
    | succ k =>
      rw [rcs_cons, show (k + 1) * 3 = p.cells.length + k * 3 by simp [RfM.cells]; omega, List.drop_length_add_append, ih]
      rfl
theorem rcs_at {m : List RfM} {i : Nat} {p : RfM} (h : m[i]? = some p) : (rcs m)[i * 3]? = some (.string ⟨p.n.toArray⟩) ∧ (rcs m)[i * 3 + 1]? = some (.slice p.ao p.f.b.length p.c) ∧ (rcs m)[i * 3 + 2]? = some (.int .i64 (p.f.sure : Nat)) := by
  obtain ⟨hl, rfl⟩ := List.getElem?_eq_some_iff.1 h
  have e : (rcs m).drop (i * 3) = m[i].cells ++ rcs (m.drop (i + 1)) := by
    rw [rcs_drop, List.drop_eq_getElem_cons hl]
    rfl
  refine ⟨?_, ?_, ?_⟩
  · have := congrArg (fun x => x[0]?) e
    simpa [RfM.cells] using this
  · have := congrArg (fun x => x[1]?) e
    simpa [RfM.cells] using this
  · have := congrArg (fun x => x[2]?) e
    simpa [RfM.cells] using this

/-- the document's disk in memory -/
structure RM (w : World) (rb room count : Nat) (halt : Int) (off : Bool) (fl : List RfM) (fa : Option Addr) (c : Nat) : Prop where
  blk : Blk w rb 61 #[.slice fa fl.length c, .int .i64 (room : Nat), .bool off, .int .i64 halt, .int .i64 (count : Nat)]
  own : w.ownsRow 0 65 3 (.slice fa fl.length c) fl.length (rcs fl)
  file : ∀ x ∈ fl, OwnG w x.ao x.c x.f.b
/-- its blocks -/
def rfeet (rb : Nat) (fa : Option Addr) (fl : List RfM) : List Nat := rb :: (blks fa ++ fl.flatMap fun x => blks x.ao)
theorem mem_rfeet {rb x : Nat} {fa : Option Addr} {fl : List RfM} : x ∈ rfeet rb fa fl ↔ x = rb ∨ x ∈ blks fa ∨ ∃ f ∈ fl, x ∈ blks f.ao := by
  simp [rfeet]
section
variable {w w' : World} {rb room count c i : Nat} {halt : Int} {off : Bool} {fl : List RfM} {fa : Option Addr} {L : List Nat} {x : RfM} {n : List UInt8}
theorem RM.lt (h : RM w rb room count halt off fl fa c) : ∀ x ∈ rfeet rb fa fl, x < w.heap.size := by
  intro x hx
  rcases mem_rfeet.1 hx with rfl | hx | ⟨f, hf, hx⟩
  · exact h.blk.lt
  · exact (own_lt h.own x hx).2
  · exact (h.file f hf).lt x hx
theorem RM.keep (h : RM w rb room count halt off fl fa c) (hk : Keeps L w w') (hL : ∀ x ∈ rfeet rb fa fl, x ∉ L) : RM w' rb room count halt off fl fa c :=
  ⟨h.blk.keep hk (hL _ (mem_rfeet.2 (.inl rfl))), own_keep h.own hk (fun x hx => hL x (mem_rfeet.2 (.inr (.inl hx)))), fun f hf => (h.file f hf).keep hk (fun x hx => hL x (mem_rfeet.2 (.inr (.inr ⟨f, hf, hx⟩))))⟩
theorem RM.keep0 (h : RM w rb room count halt off fl fa c) (hk : Keeps [] w w') : RM w' rb room count halt off fl fa c := h.keep hk (by simp)
theorem RM.cells (h : RM w rb room count halt off fl fa c) (hi : fl[i]? = some x) : ∃ g, fa = some ⟨g, 0, none⟩ ∧ g < w.heap.size ∧ w.cell? ⟨g, i * 3, none⟩ = some (.string ⟨x.n.toArray⟩) ∧ w.cell? ⟨g, i * 3 + 1, none⟩ = some (.slice x.ao x.f.b.length x.c) ∧ w.cell? ⟨g, i * 3 + 2, none⟩ = some (.int .i64 (x.f.sure : Nat)) := by
  have hl := (List.getElem?_eq_some_iff.1 hi).1
  have hS := own_read h.own (rcs_oneC fl)
  obtain ⟨g, cur, rfl, _, hB, _⟩ := ownsRow_blk h.own (by omega) (by decide)
  obtain ⟨e0, e1, e2⟩ := rcs_at hi
  have f0 := hS.cells rfl _ _ e0
  have f1 := hS.cells rfl _ _ e1
  have f2 := hS.cells rfl _ _ e2
  rw [addr_add rfl] at f0 f1 f2
  exact ⟨g, rfl, hB.lt, by simpa using f0, by simpa using f1, by simpa using f2⟩
/-- the disk's block is none of its files' -/
theorem RM.rb_fa (h : RM w rb room count halt off fl fa c) : rb ∉ blks fa := by
  intro hx
  obtain ⟨hl, hr⟩ := h.own
  rcases hr with ⟨e, _⟩ | ⟨g, cap, cur, he, hb, hg, rest⟩
  · simp only [Value.slice.injEq] at e
    obtain ⟨rfl, _, _⟩ := e
    simp at hx
  · simp only [Value.slice.injEq] at he
    obtain ⟨rfl, _, rfl⟩ := he
    simp at hx
    subst hx
    exact absurd rfl (h.blk.ne (b' := rb) hg (by decide))
theorem RM.rb_ao (h : RM w rb room count halt off fl fa c) (hx : x ∈ fl) : rb ∉ blks x.ao := by
  intro hm
  obtain ⟨cs, hc⟩ := (h.file x hx).bytes _ hm
  exact absurd rfl (h.blk.ne (b' := rb) hc (by decide))
theorem RM.fa_ao (h : RM w rb room count halt off fl fa c) (hx : x ∈ fl) : ∀ y ∈ blks x.ao, y ∉ blks fa := by
  intro y hm hy
  obtain ⟨cs, hc⟩ := (h.file x hx).bytes _ hm
  obtain ⟨hl, hr⟩ := h.own
  rcases hr with ⟨e, _⟩ | ⟨g, cap, cur, he, hb, hg, rest⟩
  · simp only [Value.slice.injEq] at e
    obtain ⟨rfl, _, _⟩ := e
    simp at hy
  · simp only [Value.slice.injEq] at he
    obtain ⟨rfl, _, rfl⟩ := he
    simp at hy
    subst hy
    have hB : Blk w y 65 cur := hg
    exact absurd rfl (hB.ne (b' := y) hc (by decide))
theorem RM.cap (h : RM w rb room count halt off fl fa c) : fl.length ≤ c := by
  have := (own_read h.own (rcs_oneC fl)).cap
  exact this

set_option maxRecDepth 100000 in
set_option maxHeartbeats 4000000 in
theorem rat_some (h : RM w rb room count halt off fl fa c) (hm : fl.length ≤ 1000) (hi : fl[i]? = some x) (hn : x.n = n) (hf : ∀ j y, j < i → fl[j]? = some y → y.n ≠ n) :
    Calls Tryd.prog 53 #[.pointer (some ⟨rb, 0, none⟩), .string ⟨n.toArray⟩] w fun e w' => e = .returned (.int .i64 (i : Nat)) ∧ w' = w := by
  have hl := (List.getElem?_eq_some_iff.1 hi).1
  have hb := h.blk.cell
  have hbl := h.blk.lt
  have H := Lib.hid h
  have HF := Lib.hid hf
  have HI := Lib.hid hi
  have HN := Lib.hid hn
  clear h hf hi hn
  go_enter Tryd.func53, Tryd.ntmps53
  go_wp2_with fail
  go_loopw [5] (fun v wr => ∃ k : Nat, v = .int .i64 (k : Int) ∧ k ≤ i ∧ wr = w) (fun v _ => i - (intOf v).toNat)
  case atStart => exact ⟨0, rfl, Nat.zero_le _, rfl⟩
  case round =>
    obtain ⟨k, rfl, hk, hw⟩ := hrel
    obtain rfl := hw.symm
    have n1 : (k : Int) < (fl.length : Int) := by omega
    have n2 : (0 : Int) ≤ (k : Int) := by omega
    have q1 : IntKind.i64.wrap ((k : Int) + 1) = k + 1 := IntWalk.i64_in _ (by omega)
    rcases (by omega : k = i ∨ k < i) with rfl | hlt
    · obtain ⟨g, rfl, hg, c0, -, -⟩ := H.out.cells HI.out
      rw [HN.out] at c0
      go_wp2_with fail
      go_ret
      exact ⟨rfl, rfl⟩
    · obtain ⟨y, hy⟩ : ∃ y, fl[k]? = some y := ⟨_, List.getElem?_eq_getElem (by omega)⟩
      have hne := HF.out k y hlt hy
      obtain ⟨g, rfl, hg, c0, -, -⟩ := H.out.cells hy
      have e1 : (y.n == n) = false := by simpa using hne
      clear hy hne
      go_wp2_with fail
      go_roundw
      case rel => exact ⟨k + 1, by simp, by omega, by first | rfl | trivial⟩
      case measure => simp [intOf]; omega
set_option maxRecDepth 100000 in
set_option maxHeartbeats 4000000 in
theorem rat_none (h : RM w rb room count halt off fl fa c) (hm : fl.length ≤ 1000) (hf : ∀ y ∈ fl, y.n ≠ n) :
    Calls Tryd.prog 53 #[.pointer (some ⟨rb, 0, none⟩), .string ⟨n.toArray⟩] w fun e w' => e = .returned (.int .i64 (-1)) ∧ w' = w := by
  have hb := h.blk.cell
  have hbl := h.blk.lt
  have H := Lib.hid h
  have HF := Lib.hid hf
  clear h hf
  go_enter Tryd.func53, Tryd.ntmps53
  go_wp2_with fail
  go_loopw [5] (fun v wr => ∃ k : Nat, v = .int .i64 (k : Int) ∧ k ≤ fl.length ∧ wr = w) (fun v _ => fl.length - (intOf v).toNat)
  case atStart => exact ⟨0, rfl, Nat.zero_le _, rfl⟩
  case round =>
    obtain ⟨k, rfl, hk, hw⟩ := hrel
    obtain rfl := hw.symm
    have n2 : (0 : Int) ≤ (k : Int) := by omega
    have q1 : IntKind.i64.wrap ((k : Int) + 1) = k + 1 := IntWalk.i64_in _ (by omega)
    rcases (by omega : k = fl.length ∨ k < fl.length) with hke | hlt
    · have n1 : ¬ ((k : Int) < (fl.length : Int)) := by omega
      clear hke
      go_wp2_with fail
      go_ret
      exact ⟨rfl, rfl⟩
    · have n1 : (k : Int) < (fl.length : Int) := by omega
      obtain ⟨y, hy⟩ : ∃ y, fl[k]? = some y := ⟨_, List.getElem?_eq_getElem hlt⟩
      have hne := HF.out y (List.mem_of_getElem? hy)
      obtain ⟨g, rfl, hg, c0, -, -⟩ := H.out.cells hy
      have e1 : (y.n == n) = false := by simpa using hne
      clear hy hne
      go_wp2_with fail
      go_roundw
      case rel => exact ⟨k + 1, by simp, by omega, by first | rfl | trivial⟩
      case measure => simp [intOf]; omega
set_option maxRecDepth 100000 in
set_option maxHeartbeats 4000000 in
theorem rused (h : RM w rb room count halt off fl fa c) (hm : fl.length ≤ 1000) (hu : usedOf (rfs fl) ≤ 1000000000) :
    Calls Tryd.prog 35 #[.pointer (some ⟨rb, 0, none⟩)] w fun e w' => e = .returned (.int .i64 (usedOf (rfs fl) : Nat)) ∧ w' = w := by
  have hb := h.blk.cell
  have hbl := h.blk.lt
  have H := Lib.hid h
  clear h
  obtain ⟨T, hT⟩ : ∃ T, T = usedOf (rfs fl) := ⟨_, rfl⟩
  rw [← hT] at hu ⊢
  have HT := Lib.hid hT
  clear hT
  go_enter Tryd.func35, Tryd.ntmps35
  go_wp2_with fail
  go_loopw [3, 4] (fun v3 v wr => ∃ k u : Nat, v3 = .int .i64 (u : Int) ∧ v = .int .i64 (k : Int) ∧ k ≤ fl.length ∧ Hid (u = usedOf ((rfs fl).take k)) ∧ wr = w) (fun _ v _ => fl.length - (intOf v).toNat)
  case atStart => exact ⟨0, 0, rfl, rfl, Nat.zero_le _, Lib.hid rfl, rfl⟩
  case round =>
    obtain ⟨k, u, rfl, rfl, hk, HU, hw⟩ := hrel
    obtain rfl := hw.symm
    have n2 : (0 : Int) ≤ (k : Int) := by omega
    have q1 : IntKind.i64.wrap ((k : Int) + 1) = k + 1 := IntWalk.i64_in _ (by omega)
    rcases (by omega : k = fl.length ∨ k < fl.length) with hke | hlt
    · have n1 : ¬ ((k : Int) < (fl.length : Int)) := by omega
      obtain rfl : u = T := by rw [HU.out, HT.out, hke, ← rfs_length, List.take_length]
      clear hke HU
      go_wp2_with fail
      go_ret
      exact ⟨rfl, rfl⟩
    · have n1 : (k : Int) < (fl.length : Int) := by omega
      obtain ⟨y, hy⟩ : ∃ y, fl[k]? = some y := ⟨_, List.getElem?_eq_getElem hlt⟩
      have hs := used_take (rfs_at hy)
      have hle := used_take_le (rfs fl) (k + 1)
      rw [← HU.out] at hs
      simp only [] at hs
      rw [← HT.out] at hle
      have q2 : IntKind.i64.wrap ((u : Int) + (y.f.b.length : Int)) = ((u + y.f.b.length : Nat) : Int) := by rw [IntWalk.i64_in _ (by omega)]; simp
      obtain ⟨g, rfl, hg, -, c1, -⟩ := H.out.cells hy
      have HS := Lib.hid hs
      clear hy hs hle HU
      go_wp2_with fail
      go_roundw
      case rel => exact ⟨k + 1, u + y.f.b.length, by simp, by simp, by omega, Lib.hid HS.out.symm, by first | rfl | trivial⟩
      case measure => simp [intOf]; omega
set_option maxRecDepth 100000 in
set_option maxHeartbeats 4000000 in
theorem rread_ok (h : RM w rb room count halt off fl fa c) (ho : off = false) (hm : fl.length ≤ 1000) (hi : fl[i]? = some x) (hn : x.n = n) (hf : ∀ j y, j < i → fl[j]? = some y → y.n ≠ n) (hb : x.f.b.length ≤ 1048576) :
    Calls Tryd.prog 36 #[.pointer (some ⟨rb, 0, none⟩), .string ⟨n.toArray⟩] w fun e w' => ∃ ao c, e = .returned (.tuple #[.slice ao x.f.b.length c, .int .i64 0]) ∧ Own w' w.heap.size ao c x.f.b ∧ Keeps [] w w' := by
  obtain ⟨iB, z, hiB, hz, hsz, hby, hzc⟩ := infoB
  subst ho
  have hA := rat_some h hm hi hn hf
  have hbc := h.blk.cell
  have hl := (List.getElem?_eq_some_iff.1 hi).1
  obtain ⟨g, rfl, hg, -, c1, -⟩ := h.cells hi
  have hR := (h.file x (List.mem_of_getElem? hi)).rb
  have n1 : (i : Int) < (fl.length : Int) := by omega
  have n2 : (0 : Int) ≤ (i : Int) := by omega
  have HA := Lib.hid hA
  have H := Lib.hid h
  clear hA hi hn hf h
  go_enter Tryd.func36, Tryd.ntmps36
  go_wp2_with fail
  refine HA.out.mono ?_
  rintro e w' ⟨rfl, hw⟩
  obtain rfl := hw.symm
  go_wp2_with (at_builtin; refine wpList_append_by _ rfl _ _ 22 22 rfl w.heap.size 5 iB z 1 1 Tryd.underlying22 hiB hz hsz hby hzc none _ 0 _ rfl (World.ownsRow_nil _ _ _ _) _ rfl x.f.b.length _ (hR.src Tryd.underlying22) (by unfold maxLen; omega) (by omega) (Nat.le_refl _) ?_; intro a3 c3 w3 hO3 hk3 hb3)
  go_ret2
  exact ⟨a3, c3, by simp, Own.of (by simpa using hO3) rfl, hk3.mono (fun x hx => by simp at hx)⟩
set_option maxRecDepth 100000 in
set_option maxHeartbeats 4000000 in
theorem rread_none (h : RM w rb room count halt off fl fa c) (ho : off = false) (hm : fl.length ≤ 1000) (hf : ∀ y ∈ fl, y.n ≠ n) :
    Calls Tryd.prog 36 #[.pointer (some ⟨rb, 0, none⟩), .string ⟨n.toArray⟩] w fun e w' => e = .returned (.tuple #[.slice none 0 0, .int .i64 30]) ∧ w' = w := by
  subst ho
  have hA := rat_none h hm hf
  have hbc := h.blk.cell
  have HA := Lib.hid hA
  clear hA hf h
  go_enter Tryd.func36, Tryd.ntmps36
  go_wp2_with fail
  refine HA.out.mono ?_
  rintro e w' ⟨rfl, hw⟩
  obtain rfl := hw.symm
  go_wp2_with fail
  go_ret2
  exact ⟨rfl, rfl⟩
theorem rat_any (h : RM w rb room count halt off fl fa c) (hm : fl.length ≤ 1000) : Calls Tryd.prog 53 #[.pointer (some ⟨rb, 0, none⟩), .string ⟨n.toArray⟩] w fun e w' => ∃ z : Int, e = .returned (.int .i64 z) ∧ w' = w := by
  by_cases hx : ∀ y ∈ fl, y.n ≠ n
  · exact (rat_none h hm hx).mono fun _ _ h => ⟨_, h⟩
  · have hex : ∃ y ∈ fl, y.n = n := by
      refine Classical.byContradiction fun hc => hx fun y hy e => hc ⟨y, hy, e⟩
    obtain ⟨i, hi1, hi2⟩ : ∃ i : Nat, (∃ y : RfM, fl[i]? = some y ∧ y.n = n) ∧ ∀ j : Nat, j < i → ¬ ∃ y : RfM, fl[j]? = some y ∧ y.n = n := by
      obtain ⟨y, hy, e⟩ := hex
      obtain ⟨i, hi⟩ := List.getElem?_of_mem hy
      clear hx
      induction i using Nat.strongRecOn generalizing y with
      | _ i ih =>
        by_cases hc : ∃ j : Nat, j < i ∧ ∃ y : RfM, fl[j]? = some y ∧ y.n = n
        · obtain ⟨j, hj, y', h1, h2⟩ := hc
          exact ih j hj y' (List.mem_of_getElem? h1) h2 h1
        · exact ⟨i, ⟨y, hi, e⟩, fun j hj h => hc ⟨j, hj, h⟩⟩
    obtain ⟨y, hy, e⟩ := hi1
    exact (rat_some h hm hy e fun j y hj h1 h2 => hi2 j hj ⟨y, h1, h2⟩).mono fun _ _ h => ⟨_, h⟩
set_option maxRecDepth 100000 in
set_option maxHeartbeats 4000000 in
theorem rread_off (h : RM w rb room count halt off fl fa c) (ho : off = true) (hm : fl.length ≤ 1000) :
    Calls Tryd.prog 36 #[.pointer (some ⟨rb, 0, none⟩), .string ⟨n.toArray⟩] w fun e w' => e = .returned (.tuple #[.slice none 0 0, .int .i64 32]) ∧ w' = w := by
  subst ho
  have hA := rat_any (n := n) h hm
  have hbc := h.blk.cell
  have HA := Lib.hid hA
  clear hA h
  go_enter Tryd.func36, Tryd.ntmps36
  go_wp2_with fail
  refine HA.out.mono ?_
  rintro e w' ⟨z, rfl, hw⟩
  obtain rfl := hw.symm
  go_wp2_with fail
  go_ret2
  exact ⟨rfl, rfl⟩
end
end Go.Proofs.YtcebbgmjbincbaaDoor
/- The document's disk: names, the power, its list of names. -/

namespace Go.Proofs.YtcebbgmjbincbaaDoor
open Go.RowKit Go.Lib

set_option maxRecDepth 100000 in
set_option maxHeartbeats 4000000 in
theorem named_any (n : List UInt8) (w : World) (hn : n.length ≤ 1000000) : Calls Tryd.prog 54 #[.string ⟨n.toArray⟩] w fun e w' => e = .returned (.bool (right n)) ∧ w' = w := by
  have hz : (⟨n.toArray⟩ : ByteArray).size = n.length := by simp [ByteArray.size]
  go_enter Tryd.func54, Tryd.ntmps54
  rcases (by omega : n.length = 0 ∨ (1 ≤ n.length ∧ n.length ≤ 40) ∨ 40 < n.length) with h | ⟨h1, h2⟩ | h
  · have hn0 : n = [] := List.eq_nil_of_length_eq_zero h
    subst hn0
    clear hn h hz
    go_wp2_with fail
    go_ret
    exact ⟨rfl, rfl⟩
  · have HL := Lib.hid hz
    have n1 : ¬ ((n.length : Int) < 1) := by omega
    have n2 : ¬ (40 < (n.length : Int)) := by omega
    go_wp2_with fail
    go_loopw [3] (fun v wr => ∃ i : Nat, v = .int .i64 (i : Int) ∧ i ≤ n.length ∧ Hid ((n.take i).all rightB = true) ∧ wr = w) (fun v _ => n.length - (intOf v).toNat)
    case atStart => exact ⟨0, rfl, Nat.zero_le _, Lib.hid (by simp), rfl⟩
    case round =>
      obtain ⟨i, rfl, hin, HR, hw⟩ := hrel
      obtain rfl := hw.symm
      rcases (by omega : i = n.length ∨ i < n.length) with hie | hil
      · have m1 : ¬ ((i : Int) < (n.length : Int)) := by omega
        have e : right n = true := by
          have := HR.out
          rw [hie, List.take_length] at this
          simp [right, h1, h2, this]
        have HE := Lib.hid e
        clear e hie HR
        go_wp2_with fail
        go_ret
        exact ⟨by rw [HE.out]; rfl, rfl⟩
      · obtain ⟨c, hc⟩ : ∃ c, n[i]? = some c := ⟨_, List.getElem?_eq_getElem hil⟩
        have m1 : (i : Int) < (n.length : Int) := by omega
        have hs := all_take_succ hc rightB
        rw [HR.out, Bool.true_and] at hs
        have HS := Lib.hid hs
        have HB := Lib.hid (rightB_eq c)
        have HM := Lib.hid (List.mem_of_getElem? hc)
        have HX := Lib.hid (show (⟨n.toArray⟩ : ByteArray)[i]'(by rw [hz]; exact hil) = c by obtain ⟨_, rfl⟩ := List.getElem?_eq_some_iff.1 hc; rfl)
        have q1 : IntKind.i64.wrap ((i : Int) + 1) = i + 1 := IntWalk.i64_in _ (by omega)
        clear hs hc HR
        by_cases hb : rightB c = true
        · have hb' := HB.out.1 hb
          have HB1 := Lib.hid hb
          have HB2 := Lib.hid hb'
          clear hb hb'
          go_wp2_with fail
          all_goals
            have e : (⟨n.toArray⟩ : ByteArray)[i]'(by rw [HL.out]; exact hil) = c := HX.out
            simp only [e] at *
            try simp only [bne_iff_ne, bne_eq_false_iff_eq, ne_eq] at *
          all_goals first
            | (exfalso; have := HB2.out; omega)
            | (go_roundw
               case rel => exact ⟨i + 1, by simp, by omega, Lib.hid (by rw [HS.out]; exact HB1.out), by first | rfl | trivial⟩
               case measure => simp [intOf]; omega)
        · have hb' : ¬ ((97 ≤ c.toNat ∧ c.toNat ≤ 122) ∨ (48 ≤ c.toNat ∧ c.toNat ≤ 57) ∨ c.toNat = 46 ∨ c.toNat = 45 ∨ c.toNat = 95) := fun h => hb (HB.out.2 h)
          have hf : right n = false := by
            cases hr : right n with
            | false => rfl
            | true =>
              simp only [right, Bool.and_eq_true, List.all_eq_true] at hr
              exact absurd (hr.2 c HM.out) hb
          have HF := Lib.hid hf
          have HB2 := Lib.hid hb'
          clear hb hb' hf
          go_wp2_with fail
          all_goals
            have e : (⟨n.toArray⟩ : ByteArray)[i]'(by rw [HL.out]; exact hil) = c := HX.out
            simp only [e] at *
            try simp only [bne_iff_ne, bne_eq_false_iff_eq, ne_eq] at *
          all_goals first
            | (exfalso; have := HB2.out; omega)
            | (go_ret; exact ⟨by rw [HF.out]; rfl, rfl⟩)
  · have HL := Lib.hid hz
    have n1 : ¬ ((n.length : Int) < 1) := by omega
    have n2 : 40 < (n.length : Int) := by omega
    have hf : right n = false := by simp [right]; omega
    rw [hf]
    clear hf
    go_wp2_with fail
    go_ret
    exact ⟨rfl, rfl⟩

section
variable {w w' : World} {rb room count c i : Nat} {halt : Int} {off : Bool} {fl : List RfM} {fa : Option Addr} {L : List Nat} {x : RfM} {n : List UInt8}
/-- the disk's own block turned -/
theorem RM.own' (h : RM w rb room count halt off fl fa c) (hk : Keeps [rb] w w') {room' count' : Nat} {halt' : Int} {off' : Bool} (hB : Blk w' rb 61 #[.slice fa fl.length c, .int .i64 (room' : Nat), .bool off', .int .i64 halt', .int .i64 (count' : Nat)]) : RM w' rb room' count' halt' off' fl fa c :=
  ⟨hB, own_keep h.own hk (fun x hx => by simp; rintro rfl; exact h.rb_fa hx), fun f hf => (h.file f hf).keep hk (fun x hx => by simp; rintro rfl; exact h.rb_ao hf hx)⟩
set_option maxRecDepth 100000 in
theorem rmay_zero (h : RM w rb room count halt off fl fa c) (h0 : halt = 0) : Calls Tryd.prog 55 #[.pointer (some ⟨rb, 0, none⟩)] w fun e w' => e = .returned (.bool false) ∧ RM w' rb room count halt true fl fa c ∧ Keeps [rb] w w' := by
  subst h0
  have hc := h.blk.cell
  have hf := h.blk.free
  have h2 := h.blk.put 2 (.bool true)
  have hk := (Keeps.refl [rb] w).set (p := ⟨rb, 2, none⟩) (.inl (by simp)) (.bool true)
  have H := Lib.hid (h.own' (room' := room) (count' := count) (halt' := 0) (off' := true) hk (h2.eq (by simp)))
  have HK := Lib.hid hk
  clear h2 hk h
  go_enter Tryd.func55, Tryd.ntmps55
  go_wp2_with fail
  go_ret
  exact ⟨rfl, H.out, HK.out⟩
set_option maxRecDepth 100000 in
theorem rmay_ok (h : RM w rb room count halt off fl fa c) (h0 : halt ≠ 0) (h1 : -1 ≤ halt ∧ halt ≤ 9223372036854775807) (hcnt : count < 4611686018427387904) : Calls Tryd.prog 55 #[.pointer (some ⟨rb, 0, none⟩)] w fun e w' => e = .returned (.bool true) ∧ RM w' rb room (count + 1) (if 0 < halt then halt - 1 else halt) off fl fa c ∧ Keeps [rb] w w' := by
  have hc := h.blk.cell
  have hf := h.blk.free
  have q1 : IntKind.i64.wrap ((count : Int) + 1) = count + 1 := IntWalk.i64_in _ (by omega)
  by_cases hp : 0 < halt
  · have q2 : IntKind.i64.wrap (halt - 1) = halt - 1 := IntWalk.i64_in _ (by omega)
    rw [if_pos hp]
    have n1 : halt > 0 := hp
    have hk := ((Keeps.refl [rb] w).set (p := ⟨rb, 3, none⟩) (.inl (by simp)) (.int .i64 (halt - 1))).set (p := ⟨rb, 4, none⟩) (.inl (by simp)) (.int .i64 ((count + 1 : Nat) : Int))
    have hB := ((h.blk.put 3 (.int .i64 (halt - 1))).put 4 (.int .i64 ((count + 1 : Nat) : Int))).eq (cs' := #[.slice fa fl.length c, .int .i64 (room : Nat), .bool off, .int .i64 (halt - 1), .int .i64 ((count + 1 : Nat) : Int)]) (by simp)
    have H := Lib.hid (h.own' hk hB)
    have HK := Lib.hid hk
    clear hk hB h
    go_enter Tryd.func55, Tryd.ntmps55
    go_wp2_with fail
    go_ret
    exact ⟨rfl, H.out, HK.out⟩
  · rw [if_neg hp]
    have n1 : ¬ (halt > 0) := hp
    have hk := (Keeps.refl [rb] w).set (p := ⟨rb, 4, none⟩) (.inl (by simp)) (.int .i64 ((count + 1 : Nat) : Int))
    have hB := (h.blk.put 4 (.int .i64 ((count + 1 : Nat) : Int))).eq (cs' := #[.slice fa fl.length c, .int .i64 (room : Nat), .bool off, .int .i64 halt, .int .i64 ((count + 1 : Nat) : Int)]) (by simp)
    have H := Lib.hid (h.own' hk hB)
    have HK := Lib.hid hk
    clear hk hB h
    go_enter Tryd.func55, Tryd.ntmps55
    go_wp2_with fail
    go_ret
    exact ⟨rfl, H.out, HK.out⟩
theorem rhalt (h : RM w rb room count halt off fl fa c) (k : Int) : Calls Tryd.prog 30 #[.pointer (some ⟨rb, 0, none⟩), .int .i64 k] w fun e w' => e = .returned (.tuple #[]) ∧ RM w' rb room count (max k (-1)) off fl fa c ∧ Keeps [rb] w w' := by
  have hc := h.blk.cell
  have hf := h.blk.free
  have hk := (Keeps.refl [rb] w).set (p := ⟨rb, 3, none⟩) (.inl (by simp)) (.int .i64 (max k (-1)))
  have hB := (h.blk.put 3 (.int .i64 (max k (-1)))).eq (cs' := #[.slice fa fl.length c, .int .i64 (room : Nat), .bool off, .int .i64 (max k (-1)), .int .i64 (count : Nat)]) (by simp)
  have H := Lib.hid (h.own' hk hB)
  have HK := Lib.hid hk
  clear hk hB h
  rcases (by omega : k < -1 ∨ k = -1 ∨ -1 < k) with g | rfl | g
  · rw [show max k (-1) = -1 by omega] at *
    go_enter Tryd.func30, Tryd.ntmps30
    go_wp2_with fail
    all_goals first
      | (exfalso; omega)
      | (go_end0; exact ⟨rfl, H.out, HK.out⟩)
  · rw [show max (-1 : Int) (-1) = -1 by omega] at *
    go_enter Tryd.func30, Tryd.ntmps30
    go_wp2_with fail
    all_goals first
      | (exfalso; omega)
      | (go_end0; exact ⟨rfl, H.out, HK.out⟩)
  · rw [show max k (-1) = k by omega] at *
    go_enter Tryd.func30, Tryd.ntmps30
    go_wp2_with fail
    all_goals first
      | (exfalso; omega)
      | (go_end0; exact ⟨rfl, H.out, HK.out⟩)
theorem rnew (r : Int) (w : World) : Calls Tryd.prog 20 #[.int .i64 r] w fun e w' => e = .returned (.pointer (some ⟨w.heap.size, 0, none⟩)) ∧ RM w' w.heap.size r.toNat 0 (-1) false [] none 0 ∧ Keeps [] w w' := by
  obtain ⟨q, hq⟩ : ∃ q : Nat, q = r.toNat := ⟨_, rfl⟩
  have HQ := Lib.hid hq
  rw [← hq]
  clear hq
  have hB := Blk.fresh w 61 #[.slice none 0 0, .int .i64 (q : Nat), .bool false, .int .i64 (-1), .int .i64 0]
  have hk := (Keeps.refl [] w).alloc (.cells #[.slice none 0 0, .int .i64 (q : Nat), .bool false, .int .i64 (-1), .int .i64 0] 61)
  have fin : RM (w.alloc (.cells #[.slice none 0 0, .int .i64 (q : Nat), .bool false, .int .i64 (-1), .int .i64 0] 61)) w.heap.size q 0 (-1) false [] none 0 := ⟨hB.eq (by simp), World.ownsRow_nil _ _ _ _, by simp⟩
  have FIN := Lib.hid (And.intro fin hk)
  clear hB hk fin
  rcases (by omega : r < 0 ∨ r = 0 ∨ 0 < r) with h | rfl | h
  · obtain rfl : q = 0 := by rw [HQ.out]; omega
    go_enter Tryd.func20, Tryd.ntmps20
    go_wp2_with fail
    all_goals first
      | (exfalso; omega)
      | (go_ret; exact ⟨rfl, FIN.out⟩)
  · obtain rfl : q = 0 := by rw [HQ.out]; omega
    go_enter Tryd.func20, Tryd.ntmps20
    go_wp2_with fail
    all_goals first
      | (exfalso; omega)
      | (go_ret; exact ⟨rfl, FIN.out⟩)
  · obtain rfl : r = (q : Int) := by rw [HQ.out]; omega
    go_enter Tryd.func20, Tryd.ntmps20
    go_wp2_with fail
    all_goals first
      | (exfalso; omega)
      | (go_ret; exact ⟨rfl, FIN.out⟩)
end
end Go.Proofs.YtcebbgmjbincbaaDoor
/- The document's disk: a file is taken out. -/

namespace Go.Proofs.YtcebbgmjbincbaaDoor
open Go.RowKit Go.Lib

theorem infoR : ∃ i z, Tryd.prog.info? 65 = some i ∧ i.zero = some z ∧ i.size = 3 ∧ i.bytes = 48 ∧ z.cells.size = 3 := by
  have h : (Tryd.prog.info? 65).map (fun i => (i.size, i.bytes, (i.zero.map fun z => z.cells.size))) = some (3, 48, some 3) := by kernel_rfl
  obtain ⟨i, hi, hx⟩ := Option.map_eq_some_iff.1 h
  simp only [Prod.mk.injEq] at hx
  obtain ⟨z, hz, hc⟩ := Option.map_eq_some_iff.1 hx.2.2
  exact ⟨i, z, hi, hz, hx.1, hx.2.1, hc⟩
theorem sizeRF : (Tryd.prog.info? 65).map (·.size) = some 3 := by kernel_rfl
theorem rdsR {W : World} {F1 F2 : World → Prop} {i1 i2 : Nat} (h1 : F1 W) (h2 : F2 W) : ∀ p ∈ [(i1, F1), (i2, F2)], p.2 W := by
  intro p hp
  simp only [List.mem_cons, List.not_mem_nil, or_false] at hp
  rcases hp with rfl | rfl <;> assumption
section
variable {w w' : World} {rb room count c i : Nat} {halt : Int} {off : Bool} {fl : List RfM} {fa : Option Addr} {L : List Nat} {x : RfM} {n : List UInt8}
theorem RM.runs (h : RM w rb room count halt off fl fa c) (hi : fl[i]? = some x) {g : Nat} (hg : fa = some ⟨g, 0, none⟩) : ∀ j v, ([.string ⟨x.n.toArray⟩, .slice x.ao x.f.b.length x.c, .int .i64 (x.f.sure : Nat)] : List Value)[j]? = some v → w.cell? ⟨g, i * 3 + j, none⟩ = some v := by
  obtain ⟨g', e, _, c0, c1, c2⟩ := h.cells hi
  subst hg
  cases e
  intro j v hj
  rcases j with _ | _ | _ | j
  · cases hj; exact c0
  · cases hj; exact c1
  · cases hj; exact c2
  · simp at hj
theorem rcs_erase (fl : List RfM) (i : Nat) : rcs (fl.take i) ++ rcs (fl.drop (i + 1)) = rcs (fl.eraseIdx i) := by
  rw [List.eraseIdx_eq_take_drop_succ, rcs_app]
theorem rtake_fin {w2 w5 : World} {N0 m c5 : Nat} {a5 : Option Addr} (h : RM w2 rb room count halt off fl fa c) (hk : Keeps [] w2 w5) (hb : w2.heap.size ≤ N0) (hm : m = (fl.eraseIdx i).length)
    (hO : w5.ownsRow N0 65 3 (.slice a5 m c5) m (rcs (fl.take i) ++ rcs (fl.drop (i + 1)))) :
    ∃ fa' c', RM (w5.setCell ⟨rb, 0, none⟩ (.slice a5 m c5)) rb room count halt off (fl.eraseIdx i) fa' c' ∧ Keeps [rb] w2 (w5.setCell ⟨rb, 0, none⟩ (.slice a5 m c5)) ∧ ∀ y ∈ blks fa', w2.heap.size ≤ y := by
  rw [rcs_erase] at hO
  subst hm
  have h5 := h.keep0 hk
  have hks := (Keeps.refl [rb] w5).set (p := ⟨rb, 0, none⟩) (.inl (by simp)) (.slice a5 (fl.eraseIdx i).length c5)
  have hl := h.blk.lt
  have hn : ∀ x ∈ blks a5, N0 ≤ x := fun x hx => (own_lt hO x hx).1
  refine ⟨a5, c5, ⟨(h5.blk.put 0 _).eq (by simp), ?_, fun x hx => ?_⟩, hk.of_nil.step hks (fun x hx => .inl hx), fun y hy => Nat.le_trans hb (hn y hy)⟩
  · exact own_older (own_keep hO hks (fun x hx => by simp; rintro rfl; have := hn _ hx; omega)) (Nat.zero_le _)
  · have hx' := (List.eraseIdx_sublist fl i).subset hx
    exact (h5.file x hx').keep hks (fun y hy => by simp; rintro rfl; exact h5.rb_ao hx' hy)
set_option maxRecDepth 100000 in
set_option maxHeartbeats 4000000 in
theorem rtake (h : RM w rb room count halt off fl fa c) (hi : fl[i]? = some x) (hm : fl.length ≤ 1000) :
    Calls Tryd.prog 57 #[.pointer (some ⟨rb, 0, none⟩), .int .i64 (i : Nat)] w fun e w' => e = .returned (.agg #[.string ⟨x.n.toArray⟩, .slice x.ao x.f.b.length x.c, .int .i64 (x.f.sure : Nat)]) ∧ ∃ fa' c', RM w' rb room count halt off (fl.eraseIdx i) fa' c' ∧ Keeps [rb] w w' ∧ ∀ y ∈ blks fa', w.heap.size ≤ y := by
  obtain ⟨iR, zR, hiR, hzR, hsR, hbR, hcR⟩ := infoR
  obtain ⟨N, hN⟩ : ∃ N, N = fl.length := ⟨_, rfl⟩
  have hl := (List.getElem?_eq_some_iff.1 hi).1
  obtain ⟨g, hg, hgl, -, -, -⟩ := h.cells hi
  have hrun := h.runs hi hg
  have hcap := h.cap
  have hlt := h.blk.lt
  have hZ := Blk.fresh w 65 #[.string ⟨#[]⟩, .slice none 0 0, .int .i64 0]
  have hk1 := (Keeps.refl [] w).alloc (.cells #[.string ⟨#[]⟩, .slice none 0 0, .int .i64 0] 65)
  have h1 := h.keep0 hk1
  have HR := Lib.hid (fun j v hj => hk1.cellSome (hrun j v hj) (by simp) : ∀ j v, ([.string ⟨x.n.toArray⟩, .slice x.ao x.f.b.length x.c, .int .i64 (x.f.sure : Nat)] : List Value)[j]? = some v → (World.alloc w (.cells #[.string ⟨#[]⟩, .slice none 0 0, .int .i64 0] 65)).cell? ⟨g, i * 3 + j, none⟩ = some v)
  have hb := h1.blk
  rw [← hN, hg] at hb
  rw [← hN] at hl hm hcap
  have n1 : (0 : Int) ≤ (i : Int) := by omega
  have n2 : (i : Int) < (N : Int) := by omega
  have hbc := hb.cell
  have hbl := hb.lt
  have H := Lib.hid h1
  have HI := Lib.hid (And.intro hi (And.intro hN hg))
  clear hrun h1 hi hN hg h
  go_enter Tryd.func57, Tryd.ntmps57
  go_upto_region 1 with (fail)
  generalize World.alloc w _ = w1 at *
  generalize hr : w.heap.size = r at *
  go_upto_region 2 with (first | (refine wpList_load_run rfl 65 _ rfl g (i * 3) rfl [.string ⟨x.n.toArray⟩, .slice x.ao x.f.b.length x.c, .int .i64 (x.f.sure : Nat)] HR.out _ Tryd.underlying65 rfl sizeRF ?_) | (refine wpList_store_fresh rfl rfl _ _ _ rfl _ rfl rfl _ rfl _ _ sizeRF (by simp) rfl ?_))
  change Code.wp _ _ _ _ (World.alloc w1 (.cells #[.string ⟨x.n.toArray⟩, .slice x.ao x.f.b.length x.c, .int .i64 (x.f.sure : Nat)] 65))
  have hX := Blk.fresh w1 65 #[.string ⟨x.n.toArray⟩, .slice x.ao x.f.b.length x.c, .int .i64 (x.f.sure : Nat)]
  have hk2 := (Keeps.refl [] w1).alloc (.cells #[.string ⟨x.n.toArray⟩, .slice x.ao x.f.b.length x.c, .int .i64 (x.f.sure : Nat)] 65)
  have hZ2 := hZ.keep hk2 (by simp)
  have hb2 := hb.keep hk2 (by simp)
  have H2 := Lib.hid (H.out.keep0 hk2)
  have hrs : r < w1.heap.size := hZ.lt
  have hk02 := hk1.trans hk2
  clear hbc hbl hb H HR hZ hk1 hk2 n1 n2
  generalize World.alloc w1 _ = w2 at *
  generalize hs : w1.heap.size = s at *
  have n1 : (0 : Int) ≤ (i : Int) := by omega
  have n2 : (i : Int) ≤ (N : Int) := by omega
  have n3 : (i : Int) ≤ (c : Int) := by omega
  have n4 : (i : Int) + 1 ≤ (N : Int) := by omega
  have n5 : (0 : Int) ≤ (i : Int) + 1 := by omega
  have n6 : (i : Int) ≤ (i : Int) + 1 := by omega
  have q1 : IntKind.i64.wrap ((i : Int) + 1) = ((i + 1 : Nat) : Int) := by rw [IntWalk.i64_in _ (by omega)]; simp
  have hS2 : Sl w2 3 (some ⟨g, 0, none⟩) N c (rcs fl) := by
    have := own_read H2.out.own (rcs_oneC fl)
    rw [← HI.out.2.1, HI.out.2.2] at this
    exact this
  have hA2 := hS2.take (k := i) (c' := c) (by omega) (by omega) (Nat.le_refl _)
  rw [rcs_take] at hA2
  have hB2 := hS2.drop (k := i + 1) (by omega)
  rw [rcs_drop] at hB2
  go_cut [] (fun wx => ∃ fa' c', RM wx rb room count halt off (fl.eraseIdx i) fa' c' ∧ Keeps [rb] w2 wx ∧ ∀ y ∈ blks fa', w2.heap.size ≤ y)
  case first =>
    have hR0 : (∀ W : World, Keeps [] w2 W → ∀ q ∈ [((4 : Nat), fun w0 : World => w0.cell? ⟨rb, 0, none⟩ = some (.slice (some ⟨g, 0, none⟩) N c)), ((11 : Nat), fun w0 : World => w0.cell? ⟨rb, 0, none⟩ = some (.slice (some ⟨g, 0, none⟩) N c))], q.2 W) := fun W hW => rdsR (hW.cellSome (hb2.cell 0) (by simp)) (hW.cellSome (hb2.cell 0) (by simp))
    have hkd := (Keeps.refl [] w2).drew
    have hSw := hR0 _ hkd
    have HR := Lib.hid hR0
    have HB2 := Lib.hid hB2
    have HA2 := Lib.hid hA2
    clear hR0 hA2 hB2 hS2
    refine startU [((4 : Nat), fun w0 : World => w0.cell? ⟨rb, 0, none⟩ = some (.slice (some ⟨g, 0, none⟩) N c)), ((11 : Nat), fun w0 : World => w0.cell? ⟨rb, 0, none⟩ = some (.slice (some ⟨g, 0, none⟩) N c))] (by kernel_rfl) ?_
    generalize w2.drew = w3 at *
    by_cases hc : c = i + 1
    · have HB3 := HB2.out
      rw [if_pos hc] at HB3
      obtain rfl : N = i + 1 := by omega
      subst hc
      rw [Nat.sub_self] at HB3
      have HB3 := Lib.hid HB3
      refine takeU (i := 0) (v := ?_) rfl (by kernel_rfl) (fun _ _ _ h => h) (Or.inl ⟨by rfl, fun w0 hw0 => ?_⟩) (fun p hp _ => hSw p hp) ?_
      rotate_left
      · simp [Reads] at hw0
        go_simp
        try with_reducible rfl
      try go_simp
      refine takeU (i := 1) (v := ?_) rfl (by kernel_rfl) (fun _ _ _ h => h) (Or.inl ⟨by rfl, fun w0 hw0 => ?_⟩) (fun p hp _ => hSw p hp) ?_
      rotate_left
      · simp [Reads] at hw0
        go_simp
        try with_reducible rfl
      try go_simp
      refine takeU (i := 2) (v := ?_) rfl (by kernel_rfl) (fun _ _ _ h => h) (Or.inl ⟨by rfl, fun w0 hw0 => ?_⟩) (fun p hp _ => hSw p hp) ?_
      rotate_left
      · simp [Reads] at hw0
        go_simp
        try with_reducible rfl
      try go_simp
      refine takeU (i := 3) (v := ?_) rfl (by kernel_rfl) (fun _ _ _ h => h) (Or.inl ⟨by rfl, fun w0 hw0 => ?_⟩) (fun p hp _ => hSw p hp) ?_
      rotate_left
      · simp [Reads] at hw0
        go_simp
        try with_reducible rfl
      try go_simp
      refine takeU (i := 4) (v := ?_) rfl (by kernel_rfl) (fun _ _ _ h => h) (Or.inl ⟨by rfl, fun w0 hw0 => ?_⟩) (fun p hp _ => hSw p hp) ?_
      rotate_left
      · simp [Reads] at hw0
        go_simp
        try with_reducible rfl
      try go_simp
      refine takeU (i := 5) (v := ?_) rfl (by kernel_rfl) (fun _ _ _ h => h) (Or.inl ⟨by rfl, fun w0 hw0 => ?_⟩) (fun p hp _ => hSw p hp) ?_
      rotate_left
      · simp [Reads] at hw0
        go_simp
        try with_reducible rfl
      try go_simp
      refine takeU (i := 6) (v := ?_) rfl (by kernel_rfl) (fun _ _ _ h => h) (Or.inl ⟨by rfl, fun w0 hw0 => ?_⟩) (fun p hp _ => hSw p hp) ?_
      rotate_left
      · simp [Reads] at hw0
        go_simp
        try with_reducible rfl
      try go_simp
      refine takeU (i := 8) (v := ?_) rfl (by kernel_rfl) (fun _ _ _ h => h) (Or.inl ⟨by rfl, fun w0 hw0 => ?_⟩) (fun p hp _ => hSw p hp) ?_
      rotate_left
      · simp [Reads] at hw0
        go_simp
        try with_reducible rfl
      try go_simp
      refine takeU (i := 9) (v := ?_) rfl (by kernel_rfl) (fun _ _ _ h => h) (Or.inl ⟨by rfl, fun w0 hw0 => ?_⟩) (fun p hp _ => hSw p hp) ?_
      rotate_left
      · simp [Reads] at hw0
        go_simp
        try with_reducible rfl
      try go_simp
      refine takeU (i := 10) (v := ?_) rfl (by kernel_rfl) (fun _ _ _ h => h) (Or.inl ⟨by rfl, fun w0 hw0 => ?_⟩) (fun p hp _ => hSw p hp) ?_
      rotate_left
      · simp [Reads] at hw0
        go_simp
        try with_reducible rfl
      try go_simp
      refine takeU (i := 11) (v := ?_) rfl (by kernel_rfl) (fun _ _ _ h => h) (Or.inl ⟨by rfl, fun w0 hw0 => ?_⟩) (fun p hp _ => hSw p hp) ?_
      rotate_left
      · simp [Reads] at hw0
        go_simp
        try with_reducible rfl
      try go_simp
      refine takeU (i := 12) (v := ?_) rfl (by kernel_rfl) (fun _ _ _ h => h) (Or.inl ⟨by rfl, fun w0 hw0 => ?_⟩) (fun p hp _ => hSw p hp) ?_
      rotate_left
      · simp [Reads] at hw0
        go_simp
        try with_reducible rfl
      try go_simp
      refine takeU (i := 13) (v := ?_) rfl (by kernel_rfl) (fun _ _ _ h => h) (Or.inl ⟨by rfl, fun w0 hw0 => ?_⟩) (fun p hp _ => hSw p hp) ?_
      rotate_left
      · simp [Reads] at hw0
        go_simp
        try with_reducible rfl
      try go_simp
      refine takeU (i := 14) (v := ?_) rfl (by kernel_rfl) (fun _ _ _ h => h) (Or.inl ⟨by rfl, fun w0 hw0 => ?_⟩) (fun p hp _ => hSw p hp) ?_
      rotate_left
      · simp [Reads] at hw0
        go_simp
        try with_reducible rfl
      try go_simp
      clear hSw
      refine oneU (i := 7) rfl (by kernel_rfl) (fun K hK => ?_)
      refine step_append_by rfl _ _ 59 59 rfl (w3.heap.size) 65 iR zR 3 48 Tryd.underlying59 hiR hzR hsR hbR hcR none _ 0 _ rfl (World.ownsRow_nil _ _ _ _) _ rfl i _ ((HA2.out.keep0 hkd).src Tryd.underlying59) (by unfold maxLen; omega) (by omega) (Nat.le_refl _) ?_
      intro a4 c4 w4 hO4 hk4 hb4
      have hO4b : w4.ownsRow w3.heap.size 65 3 (.slice a4 i c4) i (rcs (fl.take i)) := by simpa using hO4
      have hk24 := hkd.trans (hk4.mono (L' := []) (fun x hx => by simp at hx))
      refine hK _ _ (fun q hq _ _ => HR.out _ hk24 q hq) ?_
      clear hK K
      try go_simp
      refine oneU (i := 15) rfl (by kernel_rfl) (fun K hK => ?_)
      refine step_append_by rfl _ _ 59 59 rfl (w3.heap.size) 65 iR zR 3 48 Tryd.underlying59 hiR hzR hsR hbR hcR a4 _ c4 _ rfl hO4b _ rfl 0 _ ((HB3.out.keep0 hk24).src Tryd.underlying59) (by unfold maxLen; omega) (by omega) (by have := hk4.size; omega) ?_
      intro a5 c5 w5 hO5 hk5 hb5
      have hn4 := own_lt hO4b
      have hk25 : Keeps [] w2 w5 := hk24.step hk5 (fun x hx => .inr (by have := (hn4 x hx).1; have := hkd.size; omega))
      refine hK _ _ (fun q hq _ _ => HR.out _ hk25 q hq) ?_
      clear hK K
      try go_simp
      have hSw := HR.out _ hk25
      refine takeU (i := 16) (v := ?_) rfl (by kernel_rfl) (fun _ _ _ h => h) (Or.inl ⟨by rfl, fun w0 hw0 => ?_⟩) (fun p hp _ => hSw p hp) ?_
      rotate_left
      · simp [Reads] at hw0
        go_simp
        try with_reducible rfl
      try go_simp
      refine takeU (i := 17) (v := ?_) rfl (by kernel_rfl) (fun _ _ _ h => h) (Or.inl ⟨by rfl, fun w0 hw0 => ?_⟩) (fun p hp _ => hSw p hp) ?_
      rotate_left
      · simp [Reads] at hw0
        go_simp
        try with_reducible rfl
      try go_simp
      clear hSw HR
      have hb5' := hb2.keep hk25 (by simp)
      have hc5 := hb5'.cell
      have hf5 := hb5'.free
      refine oneU (i := 18) rfl (by kernel_rfl) (fun K hK => ?_)
      rw [if_pos (show Region.wanted _ _ = true from rfl)]
      go_wp2_with fail
      refine hK _ _ (fun p hp h1 _ => by simp only [List.mem_cons, List.not_mem_nil, or_false] at hp; rcases hp with rfl | rfl <;> exact waits_absurd h1 (by kernel_rfl)) ?_
      clear hK K
      try go_simp
      refine doneU (by kernel_rfl) ?_
      have FIN := Lib.hid (rtake_fin (i := i) H2.out hk25 hkd.size (by rw [List.length_eraseIdx, if_pos (by rw [← HI.out.2.1]; omega), ← HI.out.2.1]; omega) hO5)
      go_wp2_with fail
      go_meet
      exact FIN.out
    · have HB3 := HB2.out
      rw [if_neg hc] at HB3
      replace HB3 : Sl w2 3 (some ⟨g, (i + 1) * 3, none⟩) (N - (i + 1)) (c - (i + 1)) (rcs (fl.drop (i + 1))) := by simpa [addr_add] using HB3
      have HB3 := Lib.hid HB3
      refine takeU (i := 0) (v := ?_) rfl (by kernel_rfl) (fun _ _ _ h => h) (Or.inl ⟨by rfl, fun w0 hw0 => ?_⟩) (fun p hp _ => hSw p hp) ?_
      rotate_left
      · simp [Reads] at hw0
        go_simp
        try with_reducible rfl
      try go_simp
      refine takeU (i := 1) (v := ?_) rfl (by kernel_rfl) (fun _ _ _ h => h) (Or.inl ⟨by rfl, fun w0 hw0 => ?_⟩) (fun p hp _ => hSw p hp) ?_
      rotate_left
      · simp [Reads] at hw0
        go_simp
        try with_reducible rfl
      try go_simp
      refine takeU (i := 2) (v := ?_) rfl (by kernel_rfl) (fun _ _ _ h => h) (Or.inl ⟨by rfl, fun w0 hw0 => ?_⟩) (fun p hp _ => hSw p hp) ?_
      rotate_left
      · simp [Reads] at hw0
        go_simp
        try with_reducible rfl
      try go_simp
      refine takeU (i := 3) (v := ?_) rfl (by kernel_rfl) (fun _ _ _ h => h) (Or.inl ⟨by rfl, fun w0 hw0 => ?_⟩) (fun p hp _ => hSw p hp) ?_
      rotate_left
      · simp [Reads] at hw0
        go_simp
        try with_reducible rfl
      try go_simp
      refine takeU (i := 4) (v := ?_) rfl (by kernel_rfl) (fun _ _ _ h => h) (Or.inl ⟨by rfl, fun w0 hw0 => ?_⟩) (fun p hp _ => hSw p hp) ?_
      rotate_left
      · simp [Reads] at hw0
        go_simp
        try with_reducible rfl
      try go_simp
      refine takeU (i := 5) (v := ?_) rfl (by kernel_rfl) (fun _ _ _ h => h) (Or.inl ⟨by rfl, fun w0 hw0 => ?_⟩) (fun p hp _ => hSw p hp) ?_
      rotate_left
      · simp [Reads] at hw0
        go_simp
        try with_reducible rfl
      try go_simp
      refine takeU (i := 6) (v := ?_) rfl (by kernel_rfl) (fun _ _ _ h => h) (Or.inl ⟨by rfl, fun w0 hw0 => ?_⟩) (fun p hp _ => hSw p hp) ?_
      rotate_left
      · simp [Reads] at hw0
        go_simp
        try with_reducible rfl
      try go_simp
      refine takeU (i := 8) (v := ?_) rfl (by kernel_rfl) (fun _ _ _ h => h) (Or.inl ⟨by rfl, fun w0 hw0 => ?_⟩) (fun p hp _ => hSw p hp) ?_
      rotate_left
      · simp [Reads] at hw0
        go_simp
        try with_reducible rfl
      try go_simp
      refine takeU (i := 9) (v := ?_) rfl (by kernel_rfl) (fun _ _ _ h => h) (Or.inl ⟨by rfl, fun w0 hw0 => ?_⟩) (fun p hp _ => hSw p hp) ?_
      rotate_left
      · simp [Reads] at hw0
        go_simp
        try with_reducible rfl
      try go_simp
      refine takeU (i := 10) (v := ?_) rfl (by kernel_rfl) (fun _ _ _ h => h) (Or.inl ⟨by rfl, fun w0 hw0 => ?_⟩) (fun p hp _ => hSw p hp) ?_
      rotate_left
      · simp [Reads] at hw0
        go_simp
        try with_reducible rfl
      try go_simp
      refine takeU (i := 11) (v := ?_) rfl (by kernel_rfl) (fun _ _ _ h => h) (Or.inl ⟨by rfl, fun w0 hw0 => ?_⟩) (fun p hp _ => hSw p hp) ?_
      rotate_left
      · simp [Reads] at hw0
        go_simp
        try with_reducible rfl
      try go_simp
      refine takeU (i := 12) (v := ?_) rfl (by kernel_rfl) (fun _ _ _ h => h) (Or.inl ⟨by rfl, fun w0 hw0 => ?_⟩) (fun p hp _ => hSw p hp) ?_
      rotate_left
      · simp [Reads] at hw0
        go_simp
        try with_reducible rfl
      try go_simp
      refine takeU (i := 13) (v := ?_) rfl (by kernel_rfl) (fun _ _ _ h => h) (Or.inl ⟨by rfl, fun w0 hw0 => ?_⟩) (fun p hp _ => hSw p hp) ?_
      rotate_left
      · simp [Reads] at hw0
        go_simp
        try with_reducible rfl
      try go_simp
      refine takeU (i := 14) (v := ?_) rfl (by kernel_rfl) (fun _ _ _ h => h) (Or.inl ⟨by rfl, fun w0 hw0 => ?_⟩) (fun p hp _ => hSw p hp) ?_
      rotate_left
      · simp [Reads] at hw0
        go_simp
        try with_reducible rfl
      try go_simp
      clear hSw
      refine oneU (i := 7) rfl (by kernel_rfl) (fun K hK => ?_)
      refine step_append_by rfl _ _ 59 59 rfl (w3.heap.size) 65 iR zR 3 48 Tryd.underlying59 hiR hzR hsR hbR hcR none _ 0 _ rfl (World.ownsRow_nil _ _ _ _) _ rfl i _ ((HA2.out.keep0 hkd).src Tryd.underlying59) (by unfold maxLen; omega) (by omega) (Nat.le_refl _) ?_
      intro a4 c4 w4 hO4 hk4 hb4
      have hO4b : w4.ownsRow w3.heap.size 65 3 (.slice a4 i c4) i (rcs (fl.take i)) := by simpa using hO4
      have hk24 := hkd.trans (hk4.mono (L' := []) (fun x hx => by simp at hx))
      refine hK _ _ (fun q hq _ _ => HR.out _ hk24 q hq) ?_
      clear hK K
      try go_simp
      refine oneU (i := 15) rfl (by kernel_rfl) (fun K hK => ?_)
      refine step_append_by rfl _ _ 59 59 rfl (w3.heap.size) 65 iR zR 3 48 Tryd.underlying59 hiR hzR hsR hbR hcR a4 _ c4 _ rfl hO4b _ rfl (N - (i + 1)) _ ((HB3.out.keep0 hk24).src Tryd.underlying59) (by unfold maxLen; omega) (by omega) (by have := hk4.size; omega) ?_
      intro a5 c5 w5 hO5 hk5 hb5
      have hn4 := own_lt hO4b
      have hk25 : Keeps [] w2 w5 := hk24.step hk5 (fun x hx => .inr (by have := (hn4 x hx).1; have := hkd.size; omega))
      refine hK _ _ (fun q hq _ _ => HR.out _ hk25 q hq) ?_
      clear hK K
      try go_simp
      have hSw := HR.out _ hk25
      refine takeU (i := 16) (v := ?_) rfl (by kernel_rfl) (fun _ _ _ h => h) (Or.inl ⟨by rfl, fun w0 hw0 => ?_⟩) (fun p hp _ => hSw p hp) ?_
      rotate_left
      · simp [Reads] at hw0
        go_simp
        try with_reducible rfl
      try go_simp
      refine takeU (i := 17) (v := ?_) rfl (by kernel_rfl) (fun _ _ _ h => h) (Or.inl ⟨by rfl, fun w0 hw0 => ?_⟩) (fun p hp _ => hSw p hp) ?_
      rotate_left
      · simp [Reads] at hw0
        go_simp
        try with_reducible rfl
      try go_simp
      clear hSw HR
      have hb5' := hb2.keep hk25 (by simp)
      have hc5 := hb5'.cell
      have hf5 := hb5'.free
      refine oneU (i := 18) rfl (by kernel_rfl) (fun K hK => ?_)
      rw [if_pos (show Region.wanted _ _ = true from rfl)]
      go_wp2_with fail
      refine hK _ _ (fun p hp h1 _ => by simp only [List.mem_cons, List.not_mem_nil, or_false] at hp; rcases hp with rfl | rfl <;> exact waits_absurd h1 (by kernel_rfl)) ?_
      clear hK K
      try go_simp
      refine doneU (by kernel_rfl) ?_
      have FIN := Lib.hid (rtake_fin (i := i) H2.out hk25 hkd.size (by rw [List.length_eraseIdx, if_pos (by rw [← HI.out.2.1]; omega), ← HI.out.2.1]; omega) hO5)
      go_wp2_with fail
      go_meet
      exact FIN.out
  case rest =>
  generalize wc = w6 at *
  obtain ⟨fa', c', hM6, hk6, hn6⟩ := hcut
  have hs2' := hX.lt
  have hX6 := hX.keep hk6 (by simp; rintro rfl; have := hb2.lt; omega)
  have hZ6 := hZ2.keep hk6 (by simp; rintro rfl; exact absurd rfl (hb2.ne hZ2 (by decide)))
  have HM := Lib.hid hM6
  clear hM6 hA2 hB2 hS2 hb2 hX hZ2 n1 n2 n3 n4 n5 n6 q1
  go_wp2_with (first | (refine wpList_load_agg rfl _ _ rfl s 0 3 rfl 65 _ _ hX6 Tryd.underlying65 rfl sizeRF (by simp) _ rfl ?_) | (refine wpList_store_agg rfl rfl 65 _ _ rfl r 0 rfl _ rfl 65 _ hZ6 sizeRF (by simp) rfl _ rfl ?_; intro w7 hB7 hk7))
  have hrb : rb < r := by have := hlt; omega
  have hs2 : s < w2.heap.size := hs2'
  refine bodyPost_ret (results_c rfl rfl hB7 Tryd.underlying65 rfl sizeRF) rfl ⟨rfl, fa', ⟨c', HM.out.keep hk7 (fun y hy => ?_)⟩, (hk02.of_nil.step hk6 (fun x hx => .inl hx)).step hk7 (fun x hx => .inr (by simp at hx; omega)), fun y hy => by have := hn6 y hy; omega⟩
  simp
  rintro rfl
  rcases mem_rfeet.1 hy with e | hy | ⟨f, hf, hy⟩
  · omega
  · have := hn6 _ hy; omega
  · obtain ⟨cs, hcs⟩ := (HM.out.file f hf).bytes _ hy
    exact absurd rfl (hZ6.ne (b' := y) hcs (by decide))
end
end Go.Proofs.YtcebbgmjbincbaaDoor
/- The document's disk: a file is laid at its place. -/

namespace Go.Proofs.YtcebbgmjbincbaaDoor
open Go.RowKit Go.Lib

theorem less_lt : ∀ a b : List UInt8, Op.bytesLess a b = decide (a < b)
  | [], [] => rfl
  | [], _ :: _ => rfl
  | _ :: _, [] => rfl
  | x :: xs, y :: ys => by
    have ih := less_lt xs ys
    unfold Op.bytesLess
    rw [ih, Bool.eq_iff_iff]
    by_cases h1 : x < y
    · simp [h1, List.cons_lt_cons_iff]
    · by_cases h2 : y < x
      · have hne : ¬ x = y := fun e => by subst e; exact h1 h2
        simp [h1, hne, List.cons_lt_cons_iff]
      · have he : x = y := by
          apply UInt8.toNat_inj.1
          rw [UInt8.lt_iff_toNat_lt] at h1 h2
          omega
        subst he
        simp
theorem add_place (n : List UInt8) : ∀ fl : List RfM, ∃ i, i ≤ fl.length ∧ (∀ (j : Nat) (y : RfM), j < i → fl[j]? = some y → y.n < n) ∧ ∀ y : RfM, fl[i]? = some y → ¬ y.n < n
  | [] => ⟨0, Nat.le_refl _, by simp, by simp⟩
  | p :: r => by
    by_cases h : p.n < n
    · obtain ⟨i, h1, h2, h3⟩ := add_place n r
      refine ⟨i + 1, by simpa using h1, fun j y hj hy => ?_, fun y hy => h3 y (by simpa using hy)⟩
      rcases j with _ | j
      · simp at hy; subst hy; exact h
      · exact h2 j y (by omega) (by simpa using hy)
    · exact ⟨0, Nat.zero_le _, by simp, fun y hy => by simp at hy; subst hy; exact h⟩
section
variable {P : Program}
theorem step_store_agg {ops : Array Oper} {o : Oper} {a : Act} {w : World} {K : Act → World → Prop} {Q : Exit → Act → World → Prop} {E : Prop} (hgd : o.guard = none) (hdst : o.dst = none) (ty : TypeId) (x y : Operand) (ho : o.op = .store ty x y) (b off : Nat) (hx : a.eval x = .pointer (some ⟨b, off, none⟩))
    (vs : List Value) (hy : a.eval y = .agg vs.toArray) (t : TypeId) (cs : Array Value) (hB : Blk w b t cs) (hsz : (P.info? ty).map (·.size) = some vs.length)
    (hfit : off + vs.length ≤ cs.size) (h1 : vs.all Value.oneCell' = true)
    (h : ∀ w', Blk w' b t (overlay cs off vs) → Keeps [b] w w' → K a w') : if Region.wanted o (yielded ops a.tmps) = true then Oper.wp P o a w K Q else E := by
  have hw : Region.wanted o (yielded ops a.tmps) = true := by simp [Region.wanted, hgd]
  rw [if_pos hw]
  have hr := run_store_part (P := P) b off t ty cs vs hB hsz hfit h1
  unfold Oper.wp execOp
  simp only [ho, hx, hy, Instr.storeAt, Instr.sureAddr, Sem.run_bind, Sem.run_pure, Result.andThen_ok, hr, Oper.upon]
  rw [hdst]
  exact h _ (hB.row _) (Keeps.row w b _)
end
section
variable {w w' : World} {rb room count c i : Nat} {halt : Int} {off : Bool} {fl : List RfM} {fa : Option Addr} {L : List Nat} {x : RfM} {n : List UInt8}
theorem OwnG.offd {ao : Option Addr} {d : Nat} {l : List UInt8} (h : OwnG w ao d l) (hM : RM w rb room count halt off fl fa c) : ∀ y ∈ blks ao, y ∉ rb :: blks fa := by
  intro y hy hm
  obtain ⟨cs, hc⟩ := h.bytes _ hy
  rcases List.mem_cons.1 hm with rfl | hm
  · exact absurd rfl (hM.blk.ne (b' := y) hc (by decide))
  · obtain ⟨hl, hr⟩ := hM.own
    rcases hr with ⟨e, _⟩ | ⟨g, cap, cur, he, hb, hg, rest⟩
    · simp only [Value.slice.injEq] at e
      obtain ⟨rfl, _, _⟩ := e
      simp at hm
    · simp only [Value.slice.injEq] at he
      obtain ⟨rfl, _, rfl⟩ := he
      simp at hm
      subst hm
      have hB : Blk w y 65 cur := hg
      exact absurd rfl (hB.ne (b' := y) hc (by decide))
theorem seg_of {cur : List Value} {N k : Nat} (h : cur.take (N * 3) = rcs fl) : (cur.drop (k * 3)).take ((N - k) * 3) = rcs (fl.drop k) := by
  rw [← rcs_drop, ← h, List.drop_take]
  congr 1
  omega
theorem add_cells {cur2 : Array Value} {N k : Nat} (hN : N = fl.length) (hk : k ≤ N) (h1 : cur2.toList.take (k * 3) = rcs (fl.take k)) (h2 : (cur2.toList.drop ((k + 1) * 3)).take ((N - k) * 3) = rcs (fl.drop k)) :
    (overlay cur2 (k * 3) ([.string ⟨x.n.toArray⟩, .slice x.ao x.f.b.length x.c, .int .i64 (x.f.sure : Nat)] : List Value)).toList.take ((N + 1) * 3) = rcs (fl.take k ++ x :: fl.drop k) := by
  rw [overlay_list, h1, rcs_app, rcs_cons]
  have e1 : (rcs (fl.take k)).length = k * 3 := by rw [rcs_length, List.length_take]; omega
  rw [show (N + 1) * 3 = (rcs (fl.take k) ++ ([.string ⟨x.n.toArray⟩, .slice x.ao x.f.b.length x.c, .int .i64 (x.f.sure : Nat)] : List Value)).length + (N - k) * 3 by rw [List.length_append, e1]; simp; omega, List.take_length_add_append]
  rw [show k * 3 + (([.string ⟨x.n.toArray⟩, .slice x.ao x.f.b.length x.c, .int .i64 (x.f.sure : Nat)] : List Value)).length = (k + 1) * 3 by simp; omega, h2, List.append_assoc]
  rfl
/-- what add answers and leaves -/
def AddPost (w : World) (rb room count : Nat) (halt : Int) (off : Bool) (fl : List RfM) (fa : Option Addr) (x : RfM) (i : Nat) (e : Ending) (w' : World) : Prop :=
  e = .returned (.int .i64 (i : Nat)) ∧ ∃ fa' c', RM w' rb room count halt off (fl.take i ++ x :: fl.drop i) fa' c' ∧ Keeps (rb :: blks fa) w w' ∧ ∀ y ∈ blks fa', y ∈ blks fa ∨ w.heap.size ≤ y
set_option maxRecDepth 100000 in
set_option maxHeartbeats 8000000 in
theorem radd (h : RM w rb room count halt off fl fa c) (hm : fl.length ≤ 1000) (hx : OwnG w x.ao x.c x.f.b) (hi : i ≤ fl.length)
    (hlo : ∀ (j : Nat) (y : RfM), j < i → fl[j]? = some y → y.n < x.n) (hhi : ∀ y : RfM, fl[i]? = some y → ¬ y.n < x.n) :
    Calls Tryd.prog 56 #[.pointer (some ⟨rb, 0, none⟩), .agg #[.string ⟨x.n.toArray⟩, .slice x.ao x.f.b.length x.c, .int .i64 (x.f.sure : Nat)]] w (AddPost w rb room count halt off fl fa x i) := by
  obtain ⟨iR, zR, hiR, hzR, hsR, hbR, hcR⟩ := infoR
  obtain ⟨N, hN⟩ : ∃ N, N = fl.length := ⟨_, rfl⟩
  have hX := Blk.fresh w 65 #[.string ⟨x.n.toArray⟩, .slice x.ao x.f.b.length x.c, .int .i64 (x.f.sure : Nat)]
  have hk1 := (Keeps.refl [] w).alloc (.cells #[.string ⟨x.n.toArray⟩, .slice x.ao x.f.b.length x.c, .int .i64 (x.f.sure : Nat)] 65)
  have h1 := h.keep0 hk1
  have hlt := h.blk.lt
  have hcap := h.cap
  have hfa : ∀ y ∈ blks fa, y < w.heap.size := fun y hy => (own_lt h.own y hy).2
  rw [← hN] at hi hm hcap
  have H := Lib.hid (And.intro h1 (And.intro (hx.keep0 hk1) hk1))
  have HI := Lib.hid (And.intro hN (And.intro hlo hhi))
  clear h1 hx hk1 hN hlo hhi h
  go_enter Tryd.func56, Tryd.ntmps56
  go_upto_region 1 with (fail)
  change Code.wp _ _ _ _ (World.alloc w (.cells #[.string ⟨x.n.toArray⟩, .slice x.ao x.f.b.length x.c, .int .i64 (x.f.sure : Nat)] 65))
  generalize World.alloc w _ = w1 at *
  generalize hb3 : w.heap.size = b3 at *
  go_wp2_with fail
  go_loopw [5] (fun v wr => ∃ k : Nat, v = .int .i64 (k : Int) ∧ k ≤ i ∧ Keeps [] w1 wr) (fun v _ => i - (intOf v).toNat)
  case atStart => exact ⟨0, rfl, Nat.zero_le _, Keeps.refl _ _⟩
  case round =>
    obtain ⟨k, rfl, hk, hkr⟩ := hrel
    have hMr := H.out.1.keep0 hkr
    have hbr := hMr.blk
    rw [← HI.out.1] at hbr
    have hXr := hX.keep hkr (by simp)
    obtain ⟨t, ht⟩ : ∃ t : Bool, t = decide (k < i) := ⟨_, rfl⟩
    have HT := Lib.hid ht
    have HKR := Lib.hid (And.intro hkr hMr)
    have hcb := hbr.cell
    have hlb := hbr.lt
    have hcx := hXr.cell
    have hlx := hXr.lt
    have n2 : (0 : Int) ≤ (k : Int) := by omega
    clear ht hkr hMr
    go_upto_region 2 with (fail)
    go_cut [25] (fun v wx => v = .bool t ∧ Keeps [] wr wx)
    case first =>
      rcases (by omega : k < i ∨ (k = i ∧ i < N) ∨ (k = i ∧ i = N)) with hlt | ⟨rfl, hlt⟩ | ⟨rfl, hlt⟩
      · obtain rfl : t = true := by rw [HT.out]; simp [hlt]
        obtain ⟨y, hy⟩ : ∃ y, fl[k]? = some y := ⟨_, List.getElem?_eq_getElem (by rw [← HI.out.1]; omega)⟩
        have b1 := less_lt y.n x.n
        rw [decide_eq_true (HI.out.2.1 k y hlt hy)] at b1
        obtain ⟨g, rfl, hg, c0, -, -⟩ := HKR.out.2.cells hy
        have n1 : (k : Int) < (N : Int) := by omega
        clear hy
        go_quiet (fail)
        go_wp2_with fail
        go_meet
        exact ⟨by simp, (Keeps.refl [] wr).drewN _⟩
      · obtain rfl : t = false := by rw [HT.out]; simp
        obtain ⟨y, hy⟩ : ∃ y, fl[k]? = some y := ⟨_, List.getElem?_eq_getElem (by rw [← HI.out.1]; omega)⟩
        have b1 := less_lt y.n x.n
        rw [decide_eq_false (HI.out.2.2 y hy)] at b1
        obtain ⟨g, rfl, hg, c0, -, -⟩ := HKR.out.2.cells hy
        have n1 : (k : Int) < (N : Int) := by omega
        clear hy
        go_quiet (fail)
        go_wp2_with fail
        go_meet
        exact ⟨by simp, (Keeps.refl [] wr).drewN _⟩
      · obtain rfl : t = false := by rw [HT.out]; simp
        have n1 : ¬ ((k : Int) < (N : Int)) := by omega
        clear hlt
        go_quiet (fail)
        go_wp2_with fail
        go_meet
        exact ⟨by simp, (Keeps.refl [] wr).drewN _⟩
    case rest =>
    generalize wc = w2 at *
    obtain ⟨rfl, hk2⟩ := hcut
    have hk12 := HKR.out.1.trans hk2
    cases t with
    | true =>
      have hki : k < i := by have := HT.out; simpa using this.symm
      have q1 : IntKind.i64.wrap ((k : Int) + 1) = k + 1 := IntWalk.i64_in _ (by omega)
      have HK := Lib.hid hk12
      clear hcb hlb hcx hlx hk12 hk2
      go_wp2_with fail
      go_roundw
      case rel => exact ⟨k + 1, by simp, by omega, HK.out⟩
      case measure => simp [intOf]; omega
    | false =>
      obtain rfl : k = i := by have := HT.out; have : ¬ k < i := by simpa using this.symm
                               omega
      have hM2 := H.out.1.keep0 hk12
      have hx2 := H.out.2.1.keep0 hk12
      have hX2 := hX.keep hk12 (by simp)
      have hb2 := hM2.blk
      have hO2 := hM2.own
      rw [← HI.out.1] at hb2 hO2
      have H2 := Lib.hid (And.intro hM2 (And.intro hx2 (H.out.2.2.trans hk12)))
      clear hcb hlb hcx hlx hk12 hM2 hx2 hk2 hbr hXr H HKR hX HT
      have hcb := hb2.cell
      have hlb := hb2.lt
      have hfb := hb2.free
      have HFA := Lib.hid (H2.out.1.rb_fa)
      have hZs := Sl.of_blk (n := 1) (sz := 3) (Blk.fresh w2 65 #[.string ⟨#[]⟩, .slice none 0 0, .int .i64 0]) rfl (by decide) (fun u hu => by simp at hu; rcases hu with rfl | rfl | rfl <;> rfl)
      go_upto_region 5 with (first
        | (refine wpList_slice1 rfl 59 65 _ rfl iR zR (.agg #[.string ⟨#[]⟩, .slice none 0 0, .int .i64 0]) 3 Tryd.underlying59 hiR hzR hsR rfl rfl (by omega) (by omega) ?_)
        | (at_builtin; refine wpList_append_by _ rfl _ _ 59 59 rfl 0 65 iR zR 3 48 Tryd.underlying59 hiR hzR hsR hbR hcR fa _ c _ rfl (own_keep hO2 ((Keeps.refl [] w2).alloc (.cells #[.string ⟨#[]⟩, .slice none 0 0, .int .i64 0] 65)) (by simp)) _ rfl 1 _ (hZs.src Tryd.underlying59) (by unfold maxLen; omega) (by omega) (Nat.zero_le _) ?_; intro a5 c5 w5 hO5 hk5 hb5; have hb5' := (hb2.keep ((Keeps.refl [] w2).alloc (.cells #[.string ⟨#[]⟩, .slice none 0 0, .int .i64 0] 65)) (by simp)).keep hk5 HFA.out; have hc5 := hb5'.cell; have hf5 := hb5'.free))
      obtain ⟨g, cur, rfl, _, hBg, hcs, hnc, hcm, htk⟩ := ownsRow_blk hO5 (by omega) (by decide)
      have hgr : g ≠ rb := by rintro rfl; exact absurd rfl (hb5'.ne hBg (by decide))
      have hb6 := (hb5'.put 0 (.slice (some ⟨g, 0, none⟩) (N + 1) c5)).eq (cs' := #[.slice (some ⟨g, 0, none⟩) (N + 1) c5, .int .i64 (room : Nat), .bool off, .int .i64 halt, .int .i64 (count : Nat)]) (by simp)
      have hk6 := (Keeps.refl [rb] w5).set (p := ⟨rb, 0, none⟩) (.inl (by simp)) (.slice (some ⟨g, 0, none⟩) (N + 1) c5)
      generalize World.setCell w5 _ _ = w6 at *
      have hBg6 := hBg.keep hk6 (by simp; exact hgr)
      have hk25 : Keeps (blks fa) w2 w5 := ((Keeps.refl [] w2).alloc (.cells #[.string ⟨#[]⟩, .slice none 0 0, .int .i64 0] 65)).of_nil.step hk5 (fun x hx => .inl hx)
      have hk26 : Keeps (rb :: blks fa) w2 w6 := (hk25.mono (fun x hx => List.mem_cons_of_mem _ hx)).step hk6 (fun x hx => .inl (by simp at hx; subst hx; exact .head _))
      have hX2s := hX2.lt
      have hX6 := hX2.keep hk26 (by intro hh; rcases List.mem_cons.1 hh with e | hh; omega; have := hfa _ hh; omega)
      have hF6 : ∀ f ∈ fl, OwnG w6 f.ao f.c f.f.b := fun f hf => (H2.out.1.file f hf).keep hk26 ((H2.out.1.file f hf).offd H2.out.1)
      have hx6 := H2.out.2.1.keep hk26 (H2.out.2.1.offd H2.out.1)
      have hgn : g ∈ blks fa ∨ w2.heap.size ≤ g := by
        rcases hb5 _ rfl with e | e
        · exact .inl e
        · refine .inr ?_
          simp at e
          omega
      have htN : cur.toList.take (N * 3) = rcs fl := by
        have := congrArg (List.take (N * 3)) htk
        rw [List.take_take, Nat.min_eq_left (by omega), List.take_left' (by rw [rcs_length, HI.out.1])] at this
        exact this
      have hseg := seg_of (k := k) htN
      have htk1 : cur.toList.take (k * 3) = rcs (fl.take k) := by
        have := congrArg (List.take (k * 3)) htN
        rw [List.take_take, Nat.min_eq_left (by omega), rcs_take] at this
        exact this
      have H6 := Lib.hid (And.intro hk26 (And.intro hF6 (And.intro hx6 hgn)))
      have HC := Lib.hid (And.intro hcs (And.intro hnc (And.intro hcm (And.intro hseg htk1))))
      clear hk25 hk26 hF6 hx6 hgn htN hseg htk1 htk hcs hcm hk5 hk6 hb5 hb5' hc5 hf5 hcb hlb hfb hO2 hb2 hO5 hBg HFA hZs hX2
      have n1 : (0 : Int) ≤ (k : Int) := by omega
      have n3 : (k : Int) ≤ (N : Int) + 1 := by omega
      have n4 : (k : Int) + 1 ≤ (N : Int) + 1 := by omega
      have n5 : (0 : Int) ≤ (k : Int) + 1 := by omega
      have n6 : (k : Int) < (N : Int) + 1 := by omega
      have n7 : (N : Int) + 1 ≤ (c5 : Int) := by omega
      have q1 : IntKind.i64.wrap ((k : Int) + 1) = ((k + 1 : Nat) : Int) := by rw [IntWalk.i64_in _ (by omega)]; simp
      go_cut [] (fun wx => ∃ cur2 : Array Value, Blk wx g 65 cur2 ∧ cur2.size = c5 * 3 ∧ cur2.toList.take (k * 3) = rcs (fl.take k) ∧ (cur2.toList.drop ((k + 1) * 3)).take ((N - k) * 3) = rcs (fl.drop k) ∧ Keeps [g] w6 wx)
      case first =>
        have hR0 : (∀ W : World, Keeps [] w6 W → ∀ q ∈ [((3 : Nat), fun w0 : World => w0.cell? ⟨rb, 0, none⟩ = some (.slice (some ⟨g, 0, none⟩) (N + 1) c5)), ((10 : Nat), fun w0 : World => w0.cell? ⟨rb, 0, none⟩ = some (.slice (some ⟨g, 0, none⟩) (N + 1) c5))], q.2 W) := fun W hW => rdsR (hW.cellSome (hb6.cell 0) (by simp)) (hW.cellSome (hb6.cell 0) (by simp))
        have hkd := (Keeps.refl [] w6).drew
        have hSw := hR0 _ hkd
        clear hR0
        refine startU [((3 : Nat), fun w0 : World => w0.cell? ⟨rb, 0, none⟩ = some (.slice (some ⟨g, 0, none⟩) (N + 1) c5)), ((10 : Nat), fun w0 : World => w0.cell? ⟨rb, 0, none⟩ = some (.slice (some ⟨g, 0, none⟩) (N + 1) c5))] (by kernel_rfl) ?_
        generalize w6.drew = w7 at *
        have hBg7 := hBg6.keep hkd (by simp)
        have hck : c5 ≠ k := by omega
        by_cases hc : c5 = k + 1
        · obtain rfl : N = k := by omega
          subst hc
          refine takeU (i := 0) (v := ?_) rfl (by kernel_rfl) (fun _ _ _ h => h) (Or.inl ⟨by rfl, fun w0 hw0 => ?_⟩) (fun p hp _ => hSw p hp) ?_
          rotate_left
          · simp [Reads] at hw0
            go_simp
            try with_reducible rfl
          try go_simp
          refine takeU (i := 1) (v := ?_) rfl (by kernel_rfl) (fun _ _ _ h => h) (Or.inl ⟨by rfl, fun w0 hw0 => ?_⟩) (fun p hp _ => hSw p hp) ?_
          rotate_left
          · simp [Reads] at hw0
            go_simp
            try with_reducible rfl
          try go_simp
          refine takeU (i := 2) (v := ?_) rfl (by kernel_rfl) (fun _ _ _ h => h) (Or.inl ⟨by rfl, fun w0 hw0 => ?_⟩) (fun p hp _ => hSw p hp) ?_
          rotate_left
          · simp [Reads] at hw0
            go_simp
            try with_reducible rfl
          try go_simp
          refine takeU (i := 3) (v := ?_) rfl (by kernel_rfl) (fun _ _ _ h => h) (Or.inl ⟨by rfl, fun w0 hw0 => ?_⟩) (fun p hp _ => hSw p hp) ?_
          rotate_left
          · simp [Reads] at hw0
            go_simp
            try with_reducible rfl
          try go_simp
          refine takeU (i := 4) (v := ?_) rfl (by kernel_rfl) (fun _ _ _ h => h) (Or.inl ⟨by rfl, fun w0 hw0 => ?_⟩) (fun p hp _ => hSw p hp) ?_
          rotate_left
          · simp [Reads] at hw0
            go_simp
            try with_reducible rfl
          try go_simp
          refine takeU (i := 5) (v := ?_) rfl (by kernel_rfl) (fun _ _ _ h => h) (Or.inl ⟨by rfl, fun w0 hw0 => ?_⟩) (fun p hp _ => hSw p hp) ?_
          rotate_left
          · simp [Reads] at hw0
            go_simp
            try with_reducible rfl
          try go_simp
          refine takeU (i := 6) (v := ?_) rfl (by kernel_rfl) (fun _ _ _ h => h) (Or.inl ⟨by rfl, fun w0 hw0 => ?_⟩) (fun p hp _ => hSw p hp) ?_
          rotate_left
          · simp [Reads] at hw0
            go_simp
            try with_reducible rfl
          try go_simp
          refine takeU (i := 7) (v := ?_) rfl (by kernel_rfl) (fun _ _ _ h => h) (Or.inl ⟨by rfl, fun w0 hw0 => ?_⟩) (fun p hp _ => hSw p hp) ?_
          rotate_left
          · simp [Reads] at hw0
            go_simp
            try with_reducible rfl
          try go_simp
          refine takeU (i := 8) (v := ?_) rfl (by kernel_rfl) (fun _ _ _ h => h) (Or.inl ⟨by rfl, fun w0 hw0 => ?_⟩) (fun p hp _ => hSw p hp) ?_
          rotate_left
          · simp [Reads] at hw0
            go_simp
            try with_reducible rfl
          try go_simp
          refine takeU (i := 9) (v := ?_) rfl (by kernel_rfl) (fun _ _ _ h => h) (Or.inl ⟨by rfl, fun w0 hw0 => ?_⟩) (fun p hp _ => hSw p hp) ?_
          rotate_left
          · simp [Reads] at hw0
            go_simp
            try with_reducible rfl
          try go_simp
          refine takeU (i := 10) (v := ?_) rfl (by kernel_rfl) (fun _ _ _ h => h) (Or.inl ⟨by rfl, fun w0 hw0 => ?_⟩) (fun p hp _ => hSw p hp) ?_
          rotate_left
          · simp [Reads] at hw0
            go_simp
            try with_reducible rfl
          try go_simp
          refine takeU (i := 11) (v := ?_) rfl (by kernel_rfl) (fun _ _ _ h => h) (Or.inl ⟨by rfl, fun w0 hw0 => ?_⟩) (fun p hp _ => hSw p hp) ?_
          rotate_left
          · simp [Reads] at hw0
            go_simp
            try with_reducible rfl
          try go_simp
          refine takeU (i := 12) (v := ?_) rfl (by kernel_rfl) (fun _ _ _ h => h) (Or.inl ⟨by rfl, fun w0 hw0 => ?_⟩) (fun p hp _ => hSw p hp) ?_
          rotate_left
          · simp [Reads] at hw0
            go_simp
            try with_reducible rfl
          try go_simp
          clear hSw
          refine oneU (i := 13) rfl (by kernel_rfl) (fun K hK => ?_)
          refine step_copy_at rfl _ _ 59 59 rfl 65 iR 3 Tryd.underlying59 hiR hsR g 0 _ _ rfl _ _ _ rfl 65 cur hBg7 0 0 (by simp) [] ⟨rfl, Nat.le_refl _, by simp, fun _ => rfl, fun e => by simp at e, fun _ _ j u hj => by simp at hj, by simp⟩ (by simp) ?_
          intro w8 hB8 hk8
          rw [overlay_nil] at hB8
          refine hK _ _ (fun p hp _ h2 => by simp only [List.mem_cons, List.not_mem_nil, or_false] at hp; rcases hp with rfl | rfl <;> exact hk8.cellSome h2 (by simp; exact Ne.symm hgr)) ?_
          clear hK K
          try go_simp
          refine doneU (by kernel_rfl) ?_
          go_wp2_with fail
          go_meet
          refine ⟨_, hB8, HC.out.1, HC.out.2.2.2.2, ?_, hkd.of_nil.step hk8 (fun x hx => .inl hx)⟩
          rw [Nat.sub_self, Nat.zero_mul, List.take_zero, List.drop_of_length_le (by rw [← HI.out.1]; exact Nat.le_refl _)]
          rfl
        · refine takeU (i := 0) (v := ?_) rfl (by kernel_rfl) (fun _ _ _ h => h) (Or.inl ⟨by rfl, fun w0 hw0 => ?_⟩) (fun p hp _ => hSw p hp) ?_
          rotate_left
          · simp [Reads] at hw0
            go_simp
            try with_reducible rfl
          try go_simp
          refine takeU (i := 1) (v := ?_) rfl (by kernel_rfl) (fun _ _ _ h => h) (Or.inl ⟨by rfl, fun w0 hw0 => ?_⟩) (fun p hp _ => hSw p hp) ?_
          rotate_left
          · simp [Reads] at hw0
            go_simp
            try with_reducible rfl
          try go_simp
          refine takeU (i := 2) (v := ?_) rfl (by kernel_rfl) (fun _ _ _ h => h) (Or.inl ⟨by rfl, fun w0 hw0 => ?_⟩) (fun p hp _ => hSw p hp) ?_
          rotate_left
          · simp [Reads] at hw0
            go_simp
            try with_reducible rfl
          try go_simp
          refine takeU (i := 3) (v := ?_) rfl (by kernel_rfl) (fun _ _ _ h => h) (Or.inl ⟨by rfl, fun w0 hw0 => ?_⟩) (fun p hp _ => hSw p hp) ?_
          rotate_left
          · simp [Reads] at hw0
            go_simp
            try with_reducible rfl
          try go_simp
          refine takeU (i := 4) (v := ?_) rfl (by kernel_rfl) (fun _ _ _ h => h) (Or.inl ⟨by rfl, fun w0 hw0 => ?_⟩) (fun p hp _ => hSw p hp) ?_
          rotate_left
          · simp [Reads] at hw0
            go_simp
            try with_reducible rfl
          try go_simp
          refine takeU (i := 5) (v := ?_) rfl (by kernel_rfl) (fun _ _ _ h => h) (Or.inl ⟨by rfl, fun w0 hw0 => ?_⟩) (fun p hp _ => hSw p hp) ?_
          rotate_left
          · simp [Reads] at hw0
            go_simp
            try with_reducible rfl
          try go_simp
          refine takeU (i := 6) (v := ?_) rfl (by kernel_rfl) (fun _ _ _ h => h) (Or.inl ⟨by rfl, fun w0 hw0 => ?_⟩) (fun p hp _ => hSw p hp) ?_
          rotate_left
          · simp [Reads] at hw0
            go_simp
            try with_reducible rfl
          try go_simp
          refine takeU (i := 7) (v := ?_) rfl (by kernel_rfl) (fun _ _ _ h => h) (Or.inl ⟨by rfl, fun w0 hw0 => ?_⟩) (fun p hp _ => hSw p hp) ?_
          rotate_left
          · simp [Reads] at hw0
            go_simp
            try with_reducible rfl
          try go_simp
          refine takeU (i := 8) (v := ?_) rfl (by kernel_rfl) (fun _ _ _ h => h) (Or.inl ⟨by rfl, fun w0 hw0 => ?_⟩) (fun p hp _ => hSw p hp) ?_
          rotate_left
          · simp [Reads] at hw0
            go_simp
            try with_reducible rfl
          try go_simp
          refine takeU (i := 9) (v := ?_) rfl (by kernel_rfl) (fun _ _ _ h => h) (Or.inl ⟨by rfl, fun w0 hw0 => ?_⟩) (fun p hp _ => hSw p hp) ?_
          rotate_left
          · simp [Reads] at hw0
            go_simp
            try with_reducible rfl
          try go_simp
          refine takeU (i := 10) (v := ?_) rfl (by kernel_rfl) (fun _ _ _ h => h) (Or.inl ⟨by rfl, fun w0 hw0 => ?_⟩) (fun p hp _ => hSw p hp) ?_
          rotate_left
          · simp [Reads] at hw0
            go_simp
            try with_reducible rfl
          try go_simp
          refine takeU (i := 11) (v := ?_) rfl (by kernel_rfl) (fun _ _ _ h => h) (Or.inl ⟨by rfl, fun w0 hw0 => ?_⟩) (fun p hp _ => hSw p hp) ?_
          rotate_left
          · simp [Reads] at hw0
            go_simp
            try with_reducible rfl
          try go_simp
          refine takeU (i := 12) (v := ?_) rfl (by kernel_rfl) (fun _ _ _ h => h) (Or.inl ⟨by rfl, fun w0 hw0 => ?_⟩) (fun p hp _ => hSw p hp) ?_
          rotate_left
          · simp [Reads] at hw0
            go_simp
            try with_reducible rfl
          try go_simp
          clear hSw
          refine oneU (i := 13) rfl (by kernel_rfl) (fun K hK => ?_)
          refine step_copy_at rfl _ _ 59 59 rfl 65 iR 3 Tryd.underlying59 hiR hsR g ((k + 1) * 3) _ _ rfl _ _ _ rfl 65 cur hBg7 (N - k) (c5 - k) (by omega) (rcs (fl.drop k)) (hBg7.seg HC.out.2.2.2.1 (by rw [rcs_length, List.length_drop, ← HI.out.1]) (rcs_oneC _) (by omega) (by have := HC.out.2.2.1; omega)) (by rw [rcs_length, List.length_drop, ← HI.out.1, HC.out.1]; omega) ?_
          intro w8 hB8 hk8
          refine hK _ _ (fun p hp _ h2 => by simp only [List.mem_cons, List.not_mem_nil, or_false] at hp; rcases hp with rfl | rfl <;> exact hk8.cellSome h2 (by simp; exact Ne.symm hgr)) ?_
          clear hK K
          try go_simp
          refine doneU (by kernel_rfl) ?_
          go_wp2_with fail
          go_meet
          have hfit : (k + 1) * 3 + (rcs (fl.drop k)).length ≤ cur.size := by rw [rcs_length, List.length_drop, ← HI.out.1, HC.out.1]; omega
          refine ⟨_, hB8, by rw [overlay_size hfit, HC.out.1], by rw [overlay_take hfit (by omega)]; exact HC.out.2.2.2.2, ?_, hkd.of_nil.step hk8 (fun x hx => .inl hx)⟩
          have := overlay_seg hfit
          rwa [rcs_length, List.length_drop, ← HI.out.1] at this
      case rest =>
      generalize wc = w8 at *
      obtain ⟨cur2, hB8, hs8, ht8, hd8, hk8⟩ := hcut
      have hb8 := hb6.keep hk8 (by simp; exact Ne.symm hgr)
      obtain ⟨hk26, hF6, hx6, hgn⟩ := H6.out
      have hgao : ∀ (ao : Option Addr) (d : Nat) (l : List UInt8), OwnG w6 ao d l → ∀ y ∈ blks ao, y ≠ g := by
        rintro ao d l ho y hy rfl
        obtain ⟨cs, hcs⟩ := ho.bytes _ hy
        exact absurd rfl (hBg6.ne (b' := y) hcs (by decide))
      have hF8 : ∀ f ∈ fl, OwnG w8 f.ao f.c f.f.b := fun f hf => (hF6 f hf).keep hk8 (fun y hy => by simp; exact hgao _ _ _ (hF6 f hf) y hy)
      have hx8 := hx6.keep hk8 (fun y hy => by simp; exact hgao _ _ _ hx6 y hy)
      have hgao8 : ∀ (ao : Option Addr) (d : Nat) (l : List UInt8), OwnG w8 ao d l → ∀ y ∈ blks ao, y ≠ g := by
        rintro ao d l ho y hy rfl
        obtain ⟨cs, hcs⟩ := ho.bytes _ hy
        exact absurd rfl (hB8.ne (b' := y) hcs (by decide))
      have hgb : g ≠ b3 := by
        rintro rfl
        rcases hgn with h | h
        · have := hfa _ h; omega
        · have h5 := H2.out.2.2.size; have h6 := hX2s; omega
      have hX8 := hX6.keep hk8 (by simp; exact Ne.symm hgb)
      have hk28 : Keeps [] w w2 := H2.out.2.2
      have hgw : g ∈ blks fa ∨ w.heap.size ≤ g := hgn.imp id (fun h => by have := hk28.size; omega)
      have hk08 : Keeps (rb :: blks fa) w w8 := (hk28.of_nil.step hk26 (fun x hx => .inl hx)).step hk8 (fun x hx => by
        simp only [List.mem_singleton] at hx
        subst hx
        exact hgn.elim (fun h => .inl (List.mem_cons_of_mem _ h)) (fun h => .inr (by have := hk28.size; omega)))
      have H8 := Lib.hid (And.intro hF8 (And.intro hx8 (And.intro hgao8 (And.intro hgw hk08))))
      have HC8 := Lib.hid (And.intro hs8 (And.intro ht8 hd8))
      clear hF8 hx8 hgao8 hgw hk08 hs8 ht8 hd8 hgao hk26 hF6 hx6 hgn hk28 hk8 H6 hBg6 hb6 hX6
      go_upto_region 6 with (fail)
      go_cut [] (fun wx => Blk wx g 65 (overlay cur2 (k * 3) ([.string ⟨x.n.toArray⟩, .slice x.ao x.f.b.length x.c, .int .i64 (x.f.sure : Nat)] : List Value)) ∧ Keeps [g] w8 wx)
      case first =>
        have hR0 : (∀ W : World, Keeps [] w8 W → ∀ q ∈ [((3 : Nat), fun w0 : World => w0.cell? ⟨rb, 0, none⟩ = some (.slice (some ⟨g, 0, none⟩) (N + 1) c5)), ((5 : Nat), fun w0 : World => ∀ j v, ([.string ⟨x.n.toArray⟩, .slice x.ao x.f.b.length x.c, .int .i64 (x.f.sure : Nat)] : List Value)[j]? = some v → w0.cell? ⟨b3, j, none⟩ = some v)], q.2 W) := fun W hW => rdsR (hW.cellSome (hb8.cell 0) (by simp)) (fun j v hj => by
          refine hW.cellSome ((hX8.cell j).trans ?_) (by simp)
          rw [← hj, ← Array.getElem?_toList])
        have hkd := (Keeps.refl [] w8).drew
        have hSw := hR0 _ hkd
        clear hR0
        refine startU [((3 : Nat), fun w0 : World => w0.cell? ⟨rb, 0, none⟩ = some (.slice (some ⟨g, 0, none⟩) (N + 1) c5)), ((5 : Nat), fun w0 : World => ∀ j v, ([.string ⟨x.n.toArray⟩, .slice x.ao x.f.b.length x.c, .int .i64 (x.f.sure : Nat)] : List Value)[j]? = some v → w0.cell? ⟨b3, j, none⟩ = some v)] (by kernel_rfl) ?_
        generalize w8.drew = w9 at *
        have hB9 := hB8.keep hkd (by simp)
        refine takeU (i := 0) (v := ?_) rfl (by kernel_rfl) (fun _ _ _ h => h) (Or.inl ⟨by rfl, fun w0 hw0 => ?_⟩) (fun p hp _ => hSw p hp) ?_
        rotate_left
        · simp [Reads] at hw0
          go_simp
          try with_reducible rfl
        try go_simp
        refine takeU (i := 1) (v := ?_) rfl (by kernel_rfl) (fun _ _ _ h => h) (Or.inl ⟨by rfl, fun w0 hw0 => ?_⟩) (fun p hp _ => hSw p hp) ?_
        rotate_left
        · simp [Reads] at hw0
          go_simp
          try with_reducible rfl
        try go_simp
        refine takeU (i := 2) (v := ?_) rfl (by kernel_rfl) (fun _ _ _ h => h) (Or.inl ⟨by rfl, fun w0 hw0 => ?_⟩) (fun p hp _ => hSw p hp) ?_
        rotate_left
        · simp [Reads] at hw0
          go_simp
          try with_reducible rfl
        try go_simp
        refine takeU (i := 3) (v := ?_) rfl (by kernel_rfl) (fun _ _ _ h => h) (Or.inl ⟨by rfl, fun w0 hw0 => ?_⟩) (fun p hp _ => hSw p hp) ?_
        rotate_left
        · simp [Reads] at hw0
          go_simp
          try with_reducible rfl
        try go_simp
        refine takeU (i := 4) (v := ?_) rfl (by kernel_rfl) (fun _ _ _ h => h) (Or.inl ⟨by rfl, fun w0 hw0 => ?_⟩) (fun p hp _ => hSw p hp) ?_
        rotate_left
        · simp [Reads] at hw0
          go_simp
          try with_reducible rfl
        try go_simp
        refine takeU (i := 5) (v := .agg #[.string ⟨x.n.toArray⟩, .slice x.ao x.f.b.length x.c, .int .i64 (x.f.sure : Nat)]) rfl (by kernel_rfl) (fun _ _ _ h => h) (Or.inl ⟨by rfl, fun w0 hw0 => ?_⟩) (fun p hp _ => hSw p hp) ?_
        · simp [Reads] at hw0
          exact yields_runR 65 _ rfl b3 0 rfl ([.string ⟨x.n.toArray⟩, .slice x.ao x.f.b.length x.c, .int .i64 (x.f.sure : Nat)] : List Value) (fun j v hj => by rw [Nat.zero_add]; exact hw0 j v hj) _ Tryd.underlying65 rfl sizeRF
        try go_simp
        refine takeU (i := 6) (v := ?_) rfl (by kernel_rfl) (fun _ _ _ h => h) (Or.inl ⟨by rfl, fun w0 hw0 => ?_⟩) (fun p hp _ => hSw p hp) ?_
        rotate_left
        · simp [Reads] at hw0
          go_simp
          try with_reducible rfl
        try go_simp
        clear hSw
        refine oneU (i := 7) rfl (by kernel_rfl) (fun K hK => ?_)
        refine step_store_agg rfl rfl 65 _ _ rfl g (k * 3) rfl ([.string ⟨x.n.toArray⟩, .slice x.ao x.f.b.length x.c, .int .i64 (x.f.sure : Nat)] : List Value) rfl 65 cur2 hB9 sizeRF (by rw [HC8.out.1]; simp; omega) rfl ?_
        intro w10 hB10 hk10
        refine hK _ _ (fun p hp h1 _ => by simp only [List.mem_cons, List.not_mem_nil, or_false] at hp; rcases hp with rfl | rfl <;> exact waits_absurd h1 (by kernel_rfl)) ?_
        clear hK K
        try go_simp
        refine doneU (by kernel_rfl) ?_
        go_wp2_with fail
        go_meet
        exact ⟨hB10, hkd.of_nil.step hk10 (fun x hx => .inl hx)⟩
      case rest =>
      generalize wc = w10 at *
      obtain ⟨hB10, hk10⟩ := hcut
      clear n1 n3 n4 n5 n6 n7 q1
      go_wp2_with fail
      go_ret
      obtain ⟨hF8, hx8, hgao8, hgw, hk08⟩ := H8.out
      refine ⟨rfl, some ⟨g, 0, none⟩, c5, ⟨?_, ?_, ?_⟩, ?_, ?_⟩
      · refine (hb8.keep hk10 (by simp; exact Ne.symm hgr)).eq ?_
        have : (fl.take k ++ x :: fl.drop k).length = N + 1 := by have := HI.out.1; simp; omega
        rw [this]
      · have hl : (fl.take k ++ x :: fl.drop k).length = N + 1 := by have := HI.out.1; simp; omega
        rw [hl]
        exact hB10.owns (Nat.zero_le _) (by rw [overlay_size (by rw [HC8.out.1]; simp; omega), HC8.out.1]) hnc HC.out.2.2.1 (add_cells HI.out.1 hi HC8.out.2.1 HC8.out.2.2)
      · intro f hf
        rcases List.mem_append.1 hf with hf | hf
        · exact (hF8 f (List.mem_of_mem_take hf)).keep hk10 (fun y hy => by simp; exact hgao8 _ _ _ (hF8 f (List.mem_of_mem_take hf)) y hy)
        · rcases List.mem_cons.1 hf with rfl | hf
          · exact hx8.keep hk10 (fun y hy => by simp; exact hgao8 _ _ _ hx8 y hy)
          · exact (hF8 f (List.mem_of_mem_drop hf)).keep hk10 (fun y hy => by simp; exact hgao8 _ _ _ (hF8 f (List.mem_of_mem_drop hf)) y hy)
      · refine hk08.step hk10 (fun x hx => ?_)
        simp only [List.mem_singleton] at hx
        subst hx
        exact hgw.imp (fun h => List.mem_cons_of_mem _ h) id
      · intro y hy
        simp only [blks, List.mem_singleton] at hy
        subst hy
        exact hgw
end
end Go.Proofs.YtcebbgmjbincbaaDoor
/- The document's disk beside the plain disk: Sync, Remove, Read, Used, List. -/

namespace Go.Proofs.YtcebbgmjbincbaaDoor
open Go.RowKit Go.Lib

theorem rcs_set {v : Value} {j : Nat} (hj : j < 3) : ∀ {fl : List RfM} {i : Nat} {x x' : RfM}, fl[i]? = some x → x'.cells = x.cells.set j v → rcs (fl.set i x') = (rcs fl).set (i * 3 + j) v
  | [], i, x, x', h, _ => by simp at h
  | p :: r, 0, x, x', h, hx => by
    simp at h
    subst h
    rw [List.set_cons_zero, rcs_cons, rcs_cons, hx, Nat.zero_mul, Nat.zero_add, List.set_append_left _ _ (by simpa [RfM.cells] using hj)]
  | p :: r, i + 1, x, x', h, hx => by
    have ih := rcs_set hj (fl := r) (i := i) (x := x) (x' := x') (by simpa using h) hx
    rw [List.set_cons_succ, rcs_cons, rcs_cons, ih, List.set_append_right _ _ (by simp [RfM.cells]; omega)]
    congr 2
    simp [RfM.cells]
    omega
section
variable {w w' : World} {rb room count c i g : Nat} {halt : Int} {off : Bool} {fl : List RfM} {fa : Option Addr} {L : List Nat} {x x' : RfM} {n : List UInt8} {d : DSt}
/-- a cell of a file turned in its place -/
theorem RM.put (h : RM w rb room count halt off fl (some ⟨g, 0, none⟩) c) (hi : fl[i]? = some x) {j : Nat} (hj : j < 3) {v : Value} (hx : x'.cells = x.cells.set j v) (hO : OwnG w x'.ao x'.c x'.f.b) :
    RM (w.setCell ⟨g, i * 3 + j, none⟩ v) rb room count halt off (fl.set i x') (some ⟨g, 0, none⟩) c ∧ Keeps [g] w (w.setCell ⟨g, i * 3 + j, none⟩ v) := by
  have hl := (List.getElem?_eq_some_iff.1 hi).1
  have hk := (Keeps.refl [g] w).set (p := ⟨g, i * 3 + j, none⟩) (.inl (by simp)) v
  obtain ⟨g', cur, e, _, hB, hs, hnc, hcm, ht⟩ := ownsRow_blk h.own (by omega) (by decide)
  simp only [Option.some.injEq, Addr.mk.injEq, and_true] at e
  subst e
  have hrg : rb ≠ g := by rintro rfl; exact h.rb_fa (.head _)
  have hgo : ∀ (ao : Option Addr) (d : Nat) (l : List UInt8), OwnG w ao d l → ∀ y ∈ blks ao, y ∉ [g] := by
    rintro ao d l ho y hy
    simp
    rintro rfl
    obtain ⟨cs, hcs⟩ := ho.bytes _ hy
    exact absurd rfl (hB.ne (b' := y) hcs (by decide))
  refine ⟨⟨(h.blk.keep hk (by simpa using hrg)).eq (by rw [List.length_set]), ?_, fun f hf => ?_⟩, hk⟩
  · rw [List.length_set]
    refine (hB.put (i * 3 + j) v).owns (Nat.zero_le _) (by rw [Array.size_setIfInBounds]; exact hs) hnc hcm ?_
    rw [Array.toList_setIfInBounds, List.take_set, ht, rcs_set hj hi hx]
  · rcases List.mem_or_eq_of_mem_set hf with hf | rfl
    · exact (h.file f hf).keep hk (hgo _ _ _ (h.file f hf))
    · exact hO.keep hk (hgo _ _ _ hO)

/-- the document's disk in memory, as plain data -/
def Ref (w : World) (L : List Nat) (rb : Nat) (d : DSt) : Prop := ∃ fl fa c, RM w rb d.room d.count d.halt d.off fl fa c ∧ Alike (rfs fl) d.fs ∧ L = rfeet rb fa fl ∧ d.Ok
theorem Ref.lt (h : Ref w L rb d) : ∀ x ∈ L, x < w.heap.size := by obtain ⟨fl, fa, c, hM, _, rfl, _⟩ := h; exact hM.lt
theorem Ref.keep {L' : List Nat} (h : Ref w L rb d) (hk : Keeps L' w w') (hL : ∀ x ∈ L, x ∉ L') : Ref w' L rb d := by
  obtain ⟨fl, fa, c, hM, hA, rfl, hok⟩ := h
  exact ⟨fl, fa, c, hM.keep hk hL, hA, rfl, hok⟩
theorem Ref.keep0 (h : Ref w L rb d) (hk : Keeps [] w w') : Ref w' L rb d := h.keep hk (by simp)
theorem Ref.mem (h : Ref w L rb d) : rb ∈ L := by obtain ⟨fl, fa, c, _, _, rfl, _⟩ := h; exact .head _
/-- what a changing call answers and leaves -/
def RPost (w : World) (L : List Nat) (rb : Nat) (r : DSt × DRes) (e : Ending) (w' : World) : Prop :=
  e = .returned (.int .i64 r.2.cls) ∧ ∃ L', Ref w' L' rb r.1 ∧ Keeps L w w' ∧ ∀ x ∈ L', x ∈ L ∨ w.heap.size ≤ x
theorem alike_find (hA : Alike (rfs fl) d.fs) (n : List UInt8) : (∃ (i : Nat) (x : RfM), fl[i]? = some x ∧ x.n = n ∧ mget n d.fs = some x.f ∧ ∀ (j : Nat) (y : RfM), j < i → fl[j]? = some y → y.n ≠ n) ∨ (mget n d.fs = none ∧ ∀ y ∈ fl, y.n ≠ n) := by
  rcases hA.idx (n := n) with ⟨i, f, hi, hm, hf⟩ | ⟨hm, hf⟩
  · refine .inl ?_
    obtain ⟨x, hx, e⟩ : ∃ x, fl[i]? = some x ∧ x.kv = (n, f) := by
      unfold rfs at hi
      rw [List.getElem?_map] at hi
      exact Option.map_eq_some_iff.1 hi
    simp only [RfM.kv, Prod.mk.injEq] at e
    obtain ⟨e1, e2⟩ := e
    exact ⟨i, x, hx, e1, by rw [hm, e2], fun j y hj hy => hf j (y.n, y.f) hj (rfs_at hy)⟩
  · exact .inr ⟨hm, fun y hy => hf (y.n, y.f) (List.mem_map.2 ⟨y, hy, rfl⟩)⟩
theorem rfs_set : rfs (fl.set i x') = (rfs fl).set i (x'.n, x'.f) := by simp [rfs, List.map_set, RfM.kv]
theorem Alike.few (hA : Alike (rfs fl) d.fs) (hok : d.Ok) : fl.length ≤ 64 := by
  have h1 := hA.length
  rw [rfs_length] at h1
  have := hok.few
  omega
/-- the state is what it was -/
theorem RM.same {r : DRes} (h : RM w rb d.room d.count d.halt d.off fl fa c) (hA : Alike (rfs fl) d.fs) (hok : d.Ok) {z : Int} (hz : z = r.cls) (hk : Keeps [] w w') : RPost w (rfeet rb fa fl) rb (d, r) (.returned (.int .i64 z)) w' :=
  ⟨by rw [hz], _, ⟨fl, fa, c, h.keep0 hk, hA, rfl, hok⟩, hk.of_nil, fun _ hx => .inl hx⟩
theorem RM.fell (h : RM w' rb d.room d.count d.halt true fl fa c) (hA : Alike (rfs fl) d.fs) (hok : d.Ok) (hk : Keeps [rb] w w') : RPost w (rfeet rb fa fl) rb (d.fall, .down) (.returned (.int .i64 32)) w' :=
  ⟨rfl, _, ⟨fl, fa, c, h, hA, rfl, hok.fall⟩, hk.mono (fun x hx => by simp at hx; subst hx; exact .head _), fun _ hx => .inl hx⟩

set_option maxRecDepth 100000 in
set_option maxHeartbeats 4000000 in
theorem rremove (h : Ref w L rb d) (n : List UInt8) (hc : d.count < 4611686018427387904) (hok2 : (d.remove n).1.Ok) : Calls Tryd.prog 29 #[.pointer (some ⟨rb, 0, none⟩), .string ⟨n.toArray⟩] w (RPost w L rb (d.remove n)) := by
  obtain ⟨fl, fa, c, hM, hA, rfl, hok⟩ := h
  have hfew := hA.few hok
  have hbc := hM.blk.cell
  cases ho : d.off with
  | true =>
    rw [show d.remove n = (d, .down) by simp [DSt.remove, ho]]
    have hF := Lib.hid (fun w' (hw : w' = w) => hM.same (r := .down) hA hok rfl (hw ▸ Keeps.refl [] w) : ∀ w', w' = w → RPost w (rfeet rb fa fl) rb (d, .down) (.returned (.int .i64 32)) w')
    have hat := Lib.hid (rat_any (n := n) hM (by omega))
    rw [ho] at hbc
    clear hA hok2 hM
    go_enter Tryd.func29, Tryd.ntmps29
    go_wp2_with fail
    refine hat.out.mono ?_
    rintro e w' ⟨z, rfl, hw⟩
    obtain rfl := hw.symm
    go_wp2_with fail
    go_ret
    exact hF.out _ rfl
  | false =>
    rw [ho] at hbc
    rcases alike_find hA n with ⟨i, x, hi, hn, hm, hf⟩ | ⟨hm, hf⟩
    · by_cases h0 : d.halt = 0
      · rw [show d.remove n = (d.fall, .down) by simp [DSt.remove, ho, hm, h0]]
        have hat := Lib.hid (rat_some hM (by omega) hi hn hf)
        have hmy := Lib.hid (rmay_zero hM h0)
        have hF := Lib.hid (fun w' hM' hk => RM.fell (w := w) (w' := w') (d := d) (rb := rb) (fa := fa) (c := c) (fl := fl) hM' hA hok hk)
        have n1 : ¬ ((i : Int) < 0) := by omega
        clear hA hok2 hM hm hi hn hf ho h0
        go_enter Tryd.func29, Tryd.ntmps29
        go_wp2_with fail
        refine hat.out.mono ?_
        rintro e w' ⟨rfl, hw⟩
        obtain rfl := hw.symm
        go_wp2_with fail
        refine hmy.out.mono ?_
        rintro e w2 ⟨rfl, hM2, hk2⟩
        have HM2 := Lib.hid (And.intro hM2 hk2)
        clear hM2 hk2 hbc
        go_wp2_with fail
        go_ret
        exact hF.out _ HM2.out.1 HM2.out.2
      · rw [show d.remove n = ({ d.tick with fs := mdel n d.fs }, .ok) by simp [DSt.remove, ho, hm, h0]]
        rw [show d.remove n = ({ d.tick with fs := mdel n d.fs }, .ok) by simp [DSt.remove, ho, hm, h0]] at hok2
        have hat := Lib.hid (rat_some hM (by omega) hi hn hf)
        have hmy := Lib.hid (rmay_ok hM h0 hok.halt hc)
        have hdl := Lib.hid (hA.del (by have := rfs_at hi; rwa [hn] at this))
        have HI := Lib.hid hi
        have HO := Lib.hid (And.intro hok2 ho)
        have n1 : ¬ ((i : Int) < 0) := by omega
        clear hA hok2 hm hi hn hf ho h0
        go_enter Tryd.func29, Tryd.ntmps29
        go_wp2_with fail
        refine hat.out.mono ?_
        rintro e w' ⟨rfl, hw⟩
        obtain rfl := hw.symm
        go_wp2_with fail
        refine hmy.out.mono ?_
        rintro e w2 ⟨rfl, hM2, hk2⟩
        have htk := Lib.hid (rtake hM2 HI.out (by omega))
        have HK := Lib.hid hk2
        clear hM2 hk2 hbc hM hmy hat
        go_wp2_with fail
        refine htk.out.mono ?_
        rintro e w3 ⟨rfl, fa', c', hM3, hk3, hn3⟩
        have HM3 := Lib.hid (And.intro hM3 (And.intro hk3 hn3))
        clear hM3 hk3 hn3 htk
        go_wp2_with fail
        go_ret
        obtain ⟨hM3, hk3, hn3⟩ := HM3.out
        refine ⟨rfl, _, ⟨_, fa', c', hM3, ?_, rfl, HO.out.1⟩, (HK.out.mono (L' := rfeet rb fa fl) (fun x hx => by simp at hx; subst hx; exact .head _)).step hk3 (fun x hx => .inl (by simp at hx; subst hx; exact .head _)), fun y hy => ?_⟩
        · have : rfs (fl.eraseIdx i) = (rfs fl).eraseIdx i := by simp [rfs, List.eraseIdx_eq_take_drop_succ, List.map_take, List.map_drop]
          rw [this]
          exact hdl.out
        · rcases mem_rfeet.1 hy with rfl | hy | ⟨f, hf, hy⟩
          · exact .inl (.head _)
          · exact .inr (by have := hn3 y hy; have := HK.out.size; omega)
          · exact .inl (mem_rfeet.2 (.inr (.inr ⟨f, (List.eraseIdx_sublist fl i).subset hf, hy⟩)))
    · rw [show d.remove n = (d, .bad n 30) by simp [DSt.remove, ho, hm]]
      have hF := Lib.hid (fun w' (hw : w' = w) => hM.same (r := .bad n 30) hA hok rfl (hw ▸ Keeps.refl [] w) : ∀ w', w' = w → RPost w (rfeet rb fa fl) rb (d, .bad n 30) (.returned (.int .i64 30)) w')
      have hat := Lib.hid (rat_none hM (by omega) hf)
      clear hA hok2 hM hm hf ho
      go_enter Tryd.func29, Tryd.ntmps29
      go_wp2_with fail
      refine hat.out.mono ?_
      rintro e w' ⟨rfl, hw⟩
      obtain rfl := hw.symm
      go_wp2_with fail
      go_ret
      exact hF.out _ rfl
end
end Go.Proofs.YtcebbgmjbincbaaDoor
/- The document's disk beside the plain disk: Sync, Truncate. -/

namespace Go.Proofs.YtcebbgmjbincbaaDoor
open Go.RowKit Go.Lib

theorem rds3R {W : World} {F1 F2 F3 : World → Prop} {i1 i2 i3 : Nat} (h1 : F1 W) (h2 : F2 W) (h3 : F3 W) : ∀ p ∈ [(i1, F1), (i2, F2), (i3, F3)], p.2 W := by
  intro p hp
  simp only [List.mem_cons, List.not_mem_nil, or_false] at hp
  rcases hp with rfl | rfl | rfl <;> assumption
section
variable {w w' : World} {rb room count c i g : Nat} {halt : Int} {off : Bool} {fl : List RfM} {fa : Option Addr} {L : List Nat} {x x' : RfM} {n : List UInt8} {d : DSt}
theorem RM.fa_eq (h : RM w rb room count halt off fl fa c) (hi : fl[i]? = some x) : ∃ g, fa = some ⟨g, 0, none⟩ := by
  obtain ⟨g, e, _⟩ := h.cells hi
  exact ⟨g, e⟩
theorem RM.c12 (h : RM w rb room count halt off fl (some ⟨g, 0, none⟩) c) (hi : fl[i]? = some x) : w.cell? ⟨g, i * 3 + 1, none⟩ = some (.slice x.ao x.f.b.length x.c) ∧ w.cell? ⟨g, i * 3 + 2, none⟩ = some (.int .i64 (x.f.sure : Nat)) ∧ g < w.heap.size := by
  obtain ⟨g', e, hg, _, c1, c2⟩ := h.cells hi
  cases e
  exact ⟨c1, c2, hg⟩
/-- the last step: one file was turned in its place -/
theorem RM.turned {d' : DSt} (h : RM w rb d'.room d'.count d'.halt d'.off (fl.set i x') fa c) (hA : Alike (rfs (fl.set i x')) d'.fs) (hok : d'.Ok) {w0 : World} {fl0 : List RfM} {fa0 : Option Addr} (hk : Keeps (rb :: blks fa0) w0 w) (hfl : fl0 = fl) (hfa : fa = fa0) (hao : ∀ y ∈ blks x'.ao, y ∈ rfeet rb fa0 fl0 ∨ w0.heap.size ≤ y) : RPost w0 (rfeet rb fa0 fl0) rb (d', .ok) (.returned (.int .i64 0)) w := by
  subst hfl hfa
  refine ⟨rfl, _, ⟨_, _, _, h, hA, rfl, hok⟩, hk.mono (fun x hx => ?_), fun y hy => ?_⟩
  · rcases List.mem_cons.1 hx with rfl | hx
    · exact .head _
    · exact mem_rfeet.2 (.inr (.inl hx))
  · rcases mem_rfeet.1 hy with rfl | hy2 | ⟨f, hf, hy2⟩
    · exact .inl (.head _)
    · exact .inl (mem_rfeet.2 (.inr (.inl hy2)))
    · rcases List.mem_or_eq_of_mem_set hf with hf | rfl
      · exact .inl (mem_rfeet.2 (.inr (.inr ⟨f, hf, hy2⟩)))
      · exact hao y hy2
theorem RM.fzn (h : RM w rb room count halt off fl (some ⟨g, 0, none⟩) c) (o : Nat) : w.frozen? ⟨g, o, none⟩ = false := by
  rcases Nat.eq_zero_or_pos fl.length with h0 | h0
  · obtain ⟨hl, hr⟩ := h.own
    rcases hr with ⟨e, _⟩ | ⟨g', cap, cur, he, hb, hg, rest⟩
    · simp at e
    · simp only [Value.slice.injEq, Option.some.injEq, Addr.mk.injEq, and_true] at he
      obtain ⟨rfl, _⟩ := he
      exact frozen_of_row w g o cur _ hg
  · obtain ⟨g', cur, e, _, hB, _⟩ := ownsRow_blk h.own h0 (by decide)
    cases e
    exact hB.free o

set_option maxRecDepth 100000 in
set_option maxHeartbeats 4000000 in
theorem rsync (h : Ref w L rb d) (n : List UInt8) (hc : d.count < 4611686018427387904) (hok2 : (d.sync n).1.Ok) : Calls Tryd.prog 23 #[.pointer (some ⟨rb, 0, none⟩), .string ⟨n.toArray⟩] w (RPost w L rb (d.sync n)) := by
  obtain ⟨fl, fa, c, hM, hA, rfl, hok⟩ := h
  have hfew := hA.few hok
  have hbc := hM.blk.cell
  cases ho : d.off with
  | true =>
    rw [show d.sync n = (d, .down) by simp [DSt.sync, ho]]
    have hF := Lib.hid (fun w' (hw : w' = w) => hM.same (r := .down) hA hok rfl (hw ▸ Keeps.refl [] w) : ∀ w', w' = w → RPost w (rfeet rb fa fl) rb (d, .down) (.returned (.int .i64 32)) w')
    have hat := Lib.hid (rat_any (n := n) hM (by omega))
    rw [ho] at hbc
    clear hA hok2 hM
    go_enter Tryd.func23, Tryd.ntmps23
    go_wp2_with fail
    refine hat.out.mono ?_
    rintro e w' ⟨z, rfl, hw⟩
    obtain rfl := hw.symm
    go_wp2_with fail
    go_ret
    exact hF.out _ rfl
  | false =>
    rw [ho] at hbc
    rcases alike_find hA n with ⟨i, x, hi, hn, hm, hf⟩ | ⟨hm, hf⟩
    rotate_left
    · rw [show d.sync n = (d, .bad n 30) by simp [DSt.sync, ho, hm]]
      have hF := Lib.hid (fun w' (hw : w' = w) => hM.same (r := .bad n 30) hA hok rfl (hw ▸ Keeps.refl [] w) : ∀ w', w' = w → RPost w (rfeet rb fa fl) rb (d, .bad n 30) (.returned (.int .i64 30)) w')
      have hat := Lib.hid (rat_none hM (by omega) hf)
      clear hA hok2 hM hm hf ho
      go_enter Tryd.func23, Tryd.ntmps23
      go_wp2_with fail
      refine hat.out.mono ?_
      rintro e w' ⟨rfl, hw⟩
      obtain rfl := hw.symm
      go_wp2_with fail
      go_ret
      exact hF.out _ rfl
    by_cases h0 : d.halt = 0
    · rw [show d.sync n = (d.fall, .down) by simp [DSt.sync, ho, hm, h0]]
      have hat := Lib.hid (rat_some hM (by omega) hi hn hf)
      have hmy := Lib.hid (rmay_zero hM h0)
      have hF := Lib.hid (fun w' hM' hk => RM.fell (w := w) (w' := w') (d := d) (rb := rb) (fa := fa) (c := c) (fl := fl) hM' hA hok hk)
      have n1 : ¬ ((i : Int) < 0) := by omega
      clear hA hok2 hM hm hi hn hf ho h0
      go_enter Tryd.func23, Tryd.ntmps23
      go_wp2_with fail
      refine hat.out.mono ?_
      rintro e w' ⟨rfl, hw⟩
      obtain rfl := hw.symm
      go_wp2_with fail
      refine hmy.out.mono ?_
      rintro e w2 ⟨rfl, hM2, hk2⟩
      have HM2 := Lib.hid (And.intro hM2 hk2)
      clear hM2 hk2 hbc
      go_wp2_with fail
      go_ret
      exact hF.out _ HM2.out.1 HM2.out.2
    · rw [show d.sync n = ({ d.tick with fs := mput n ⟨x.f.b, x.f.b.length⟩ d.fs }, .ok) by simp [DSt.sync, ho, hm, h0]]
      rw [show d.sync n = ({ d.tick with fs := mput n ⟨x.f.b, x.f.b.length⟩ d.fs }, .ok) by simp [DSt.sync, ho, hm, h0]] at hok2
      obtain ⟨g, rfl⟩ := hM.fa_eq hi
      have hat := Lib.hid (rat_some hM (by omega) hi hn hf)
      have hmy := Lib.hid (rmay_ok hM h0 hok.halt hc)
      have hdl := Lib.hid (hA.set (f := ⟨x.f.b, x.f.b.length⟩) (by have := rfs_at hi; rwa [hn] at this))
      have HI := Lib.hid (And.intro hi hn)
      have HO := Lib.hid (And.intro hok2 ho)
      have hlt := (List.getElem?_eq_some_iff.1 hi).1
      have n1 : ¬ ((i : Int) < 0) := by omega
      clear hA hok2 hm hi hn hf ho h0
      go_enter Tryd.func23, Tryd.ntmps23
      go_wp2_with fail
      refine hat.out.mono ?_
      rintro e w' ⟨rfl, hw⟩
      obtain rfl := hw.symm
      go_wp2_with fail
      refine hmy.out.mono ?_
      rintro e w2 ⟨rfl, hM2, hk2⟩
      have HK := Lib.hid hk2
      clear hk2 hbc hM hmy hat
      go_upto_region 8 with (fail)
      obtain ⟨d1, d2, dg⟩ := hM2.c12 HI.out.1
      have hb2 := hM2.blk
      have HM2 := Lib.hid hM2
      have n2 : (i : Int) < (fl.length : Int) := by omega
      have n3 : (0 : Int) ≤ (i : Int) := by omega
      clear hM2
      have hR0 : (∀ W : World, Keeps [] w2 W → ∀ q ∈ [((3 : Nat), fun w0 : World => w0.cell? ⟨rb, 0, none⟩ = some (.slice (some ⟨g, 0, none⟩) fl.length c)), ((8 : Nat), fun w0 : World => w0.cell? ⟨rb, 0, none⟩ = some (.slice (some ⟨g, 0, none⟩) fl.length c)), ((12 : Nat), fun w0 : World => w0.cell? ⟨g, i * 3 + 1, none⟩ = some (.slice x.ao x.f.b.length x.c))], q.2 W) := fun W hW => rds3R (hW.cellSome (hb2.cell 0) (by simp)) (hW.cellSome (hb2.cell 0) (by simp)) (hW.cellSome d1 (by simp))
      have hkd := (Keeps.refl [] w2).drew
      have hSw := hR0 _ hkd
      clear hR0 d1 d2
      refine startU [((3 : Nat), fun w0 : World => w0.cell? ⟨rb, 0, none⟩ = some (.slice (some ⟨g, 0, none⟩) fl.length c)), ((8 : Nat), fun w0 : World => w0.cell? ⟨rb, 0, none⟩ = some (.slice (some ⟨g, 0, none⟩) fl.length c)), ((12 : Nat), fun w0 : World => w0.cell? ⟨g, i * 3 + 1, none⟩ = some (.slice x.ao x.f.b.length x.c))] (by kernel_rfl) ?_
      generalize w2.drew = w3 at *
      have hM3 := HM2.out.keep0 hkd
      have d3 := (hM3.c12 HI.out.1).2.1
      have f3 := fun (o : Nat) => hM3.fzn o
      refine takeU (i := 0) (v := ?_) rfl (by kernel_rfl) (fun _ _ _ h => h) (Or.inl ⟨by rfl, fun w0 hw0 => ?_⟩) (fun p hp _ => hSw p hp) ?_
      rotate_left
      · simp [Reads] at hw0
        go_simp
        try with_reducible rfl
      try go_simp
      refine takeU (i := 1) (v := ?_) rfl (by kernel_rfl) (fun _ _ _ h => h) (Or.inl ⟨by rfl, fun w0 hw0 => ?_⟩) (fun p hp _ => hSw p hp) ?_
      rotate_left
      · simp [Reads] at hw0
        go_simp
        try with_reducible rfl
      try go_simp
      refine takeU (i := 2) (v := ?_) rfl (by kernel_rfl) (fun _ _ _ h => h) (Or.inl ⟨by rfl, fun w0 hw0 => ?_⟩) (fun p hp _ => hSw p hp) ?_
      rotate_left
      · simp [Reads] at hw0
        go_simp
        try with_reducible rfl
      try go_simp
      refine takeU (i := 3) (v := ?_) rfl (by kernel_rfl) (fun _ _ _ h => h) (Or.inl ⟨by rfl, fun w0 hw0 => ?_⟩) (fun p hp _ => hSw p hp) ?_
      rotate_left
      · simp [Reads] at hw0
        go_simp
        try with_reducible rfl
      try go_simp
      refine takeU (i := 4) (v := ?_) rfl (by kernel_rfl) (fun _ _ _ h => h) (Or.inl ⟨by rfl, fun w0 hw0 => ?_⟩) (fun p hp _ => hSw p hp) ?_
      rotate_left
      · simp [Reads] at hw0
        go_simp
        try with_reducible rfl
      try go_simp
      refine takeU (i := 5) (v := ?_) rfl (by kernel_rfl) (fun _ _ _ h => h) (Or.inl ⟨by rfl, fun w0 hw0 => ?_⟩) (fun p hp _ => hSw p hp) ?_
      rotate_left
      · simp [Reads] at hw0
        go_simp
        try with_reducible rfl
      try go_simp
      refine takeU (i := 6) (v := ?_) rfl (by kernel_rfl) (fun _ _ _ h => h) (Or.inl ⟨by rfl, fun w0 hw0 => ?_⟩) (fun p hp _ => hSw p hp) ?_
      rotate_left
      · simp [Reads] at hw0
        go_simp
        try with_reducible rfl
      try go_simp
      refine takeU (i := 7) (v := ?_) rfl (by kernel_rfl) (fun _ _ _ h => h) (Or.inl ⟨by rfl, fun w0 hw0 => ?_⟩) (fun p hp _ => hSw p hp) ?_
      rotate_left
      · simp [Reads] at hw0
        go_simp
        try with_reducible rfl
      try go_simp
      refine takeU (i := 8) (v := ?_) rfl (by kernel_rfl) (fun _ _ _ h => h) (Or.inl ⟨by rfl, fun w0 hw0 => ?_⟩) (fun p hp _ => hSw p hp) ?_
      rotate_left
      · simp [Reads] at hw0
        go_simp
        try with_reducible rfl
      try go_simp
      refine takeU (i := 9) (v := ?_) rfl (by kernel_rfl) (fun _ _ _ h => h) (Or.inl ⟨by rfl, fun w0 hw0 => ?_⟩) (fun p hp _ => hSw p hp) ?_
      rotate_left
      · simp [Reads] at hw0
        go_simp
        try with_reducible rfl
      try go_simp
      refine takeU (i := 10) (v := ?_) rfl (by kernel_rfl) (fun _ _ _ h => h) (Or.inl ⟨by rfl, fun w0 hw0 => ?_⟩) (fun p hp _ => hSw p hp) ?_
      rotate_left
      · simp [Reads] at hw0
        go_simp
        try with_reducible rfl
      try go_simp
      refine takeU (i := 11) (v := ?_) rfl (by kernel_rfl) (fun _ _ _ h => h) (Or.inl ⟨by rfl, fun w0 hw0 => ?_⟩) (fun p hp _ => hSw p hp) ?_
      rotate_left
      · simp [Reads] at hw0
        go_simp
        try with_reducible rfl
      try go_simp
      refine takeU (i := 12) (v := ?_) rfl (by kernel_rfl) (fun _ _ _ h => h) (Or.inl ⟨by rfl, fun w0 hw0 => ?_⟩) (fun p hp _ => hSw p hp) ?_
      rotate_left
      · simp [Reads] at hw0
        go_simp
        try with_reducible rfl
      try go_simp
      refine takeU (i := 13) (v := ?_) rfl (by kernel_rfl) (fun _ _ _ h => h) (Or.inl ⟨by rfl, fun w0 hw0 => ?_⟩) (fun p hp _ => hSw p hp) ?_
      rotate_left
      · simp [Reads] at hw0
        go_simp
        try with_reducible rfl
      try go_simp
      refine takeU (i := 14) (v := ?_) rfl (by kernel_rfl) (fun _ _ _ h => h) (Or.inl ⟨by rfl, fun w0 hw0 => ?_⟩) (fun p hp _ => hSw p hp) ?_
      rotate_left
      · simp [Reads] at hw0
        go_simp
        try with_reducible rfl
      try go_simp
      refine takeU (i := 15) (v := ?_) rfl (by kernel_rfl) (fun _ _ _ h => h) (Or.inl ⟨by rfl, fun w0 hw0 => ?_⟩) (fun p hp _ => hSw p hp) ?_
      rotate_left
      · simp [Reads] at hw0
        go_simp
        try with_reducible rfl
      try go_simp
      clear hSw
      refine oneU (i := 16) rfl (by kernel_rfl) (fun K hK => ?_)
      rw [if_pos (show Region.wanted _ _ = true from rfl)]
      have HM3 := Lib.hid hM3
      clear hM3
      go_wp2_with fail
      refine hK _ _ (fun p hp h1 _ => by simp only [List.mem_cons, List.not_mem_nil, or_false] at hp; rcases hp with rfl | rfl | rfl <;> exact waits_absurd h1 (by kernel_rfl)) ?_
      clear hK K
      try go_simp
      refine doneU (by kernel_rfl) ?_
      obtain ⟨hM4, hk4⟩ := HM3.out.put HI.out.1 (j := 2) (by omega) (v := .int .i64 (x.f.b.length : Nat)) (x' := { x with f := ⟨x.f.b, x.f.b.length⟩ }) rfl (HM3.out.file x (List.mem_of_getElem? HI.out.1))
      generalize World.setCell w3 _ _ = w4 at *
      have HM4 := Lib.hid (And.intro hM4 hk4)
      clear d3 f3 hM4 hk4 n1 n2 n3
      go_wp2_with fail
      go_ret
      refine RM.turned (d' := { d.tick with fs := mput n ⟨x.f.b, x.f.b.length⟩ d.fs }) (i := i) (x' := { x with f := ⟨x.f.b, x.f.b.length⟩ }) HM4.out.1 (by rw [rfs_set]; have := hdl.out; rw [← HI.out.2] at this ⊢; exact this) HO.out.1 ?_ rfl rfl (fun y hy => .inl (mem_rfeet.2 (.inr (.inr ⟨x, List.mem_of_getElem? HI.out.1, hy⟩))))
      exact ((HK.out.mono (fun x hx => by simp at hx; subst hx; exact .head _)).step hkd (fun x hx => by cases hx)).step HM4.out.2 (fun x hx => .inl (by simp at hx; subst hx; simp))

set_option maxRecDepth 100000 in
set_option maxHeartbeats 4000000 in
theorem rtrunc (h : Ref w L rb d) (n : List UInt8) (k : Int) (hc : d.count < 4611686018427387904) (hok2 : (d.trunc n k).1.Ok) : Calls Tryd.prog 25 #[.pointer (some ⟨rb, 0, none⟩), .string ⟨n.toArray⟩, .int .i64 k] w (RPost w L rb (d.trunc n k)) := by
  obtain ⟨fl, fa, c, hM, hA, rfl, hok⟩ := h
  have hfew := hA.few hok
  have hbc := hM.blk.cell
  cases ho : d.off with
  | true =>
    rw [show d.trunc n k = (d, .down) by simp [DSt.trunc, ho]]
    have hF := Lib.hid (fun w' (hw : w' = w) => hM.same (r := .down) hA hok rfl (hw ▸ Keeps.refl [] w) : ∀ w', w' = w → RPost w (rfeet rb fa fl) rb (d, .down) (.returned (.int .i64 32)) w')
    have hat := Lib.hid (rat_any (n := n) hM (by omega))
    rw [ho] at hbc
    clear hA hok2 hM
    go_enter Tryd.func25, Tryd.ntmps25
    go_wp2_with fail
    refine hat.out.mono ?_
    rintro e w' ⟨z, rfl, hw⟩
    obtain rfl := hw.symm
    go_wp2_with fail
    go_ret
    exact hF.out _ rfl
  | false =>
    rw [ho] at hbc
    rcases alike_find hA n with ⟨i, x, hi, hn, hm, hf⟩ | ⟨hm, hf⟩
    rotate_left
    · rw [show d.trunc n k = (d, .bad n 30) by simp [DSt.trunc, ho, hm]]
      have hF := Lib.hid (fun w' (hw : w' = w) => hM.same (r := .bad n 30) hA hok rfl (hw ▸ Keeps.refl [] w) : ∀ w', w' = w → RPost w (rfeet rb fa fl) rb (d, .bad n 30) (.returned (.int .i64 30)) w')
      have hat := Lib.hid (rat_none hM (by omega) hf)
      clear hA hok2 hM hm hf ho
      go_enter Tryd.func25, Tryd.ntmps25
      go_wp2_with fail
      refine hat.out.mono ?_
      rintro e w' ⟨rfl, hw⟩
      obtain rfl := hw.symm
      go_wp2_with fail
      go_ret
      exact hF.out _ rfl
    have n1 : ¬ ((i : Int) < 0) := by omega
    have hlt := (List.getElem?_eq_some_iff.1 hi).1
    obtain ⟨g, rfl⟩ := hM.fa_eq hi
    obtain ⟨d1, d2, dg⟩ := hM.c12 hi
    have n2 : (i : Int) < (fl.length : Int) := by omega
    have n3 : (0 : Int) ≤ (i : Int) := by omega
    by_cases hbad : k < 0 ∨ (x.f.b.length : Int) < k
    · rw [show d.trunc n k = (d, .bad n 40) by simp [DSt.trunc, ho, hm, hbad]]
      have hF := Lib.hid (fun w' (hw : w' = w) => hM.same (r := .bad n 40) hA hok rfl (hw ▸ Keeps.refl [] w) : ∀ w', w' = w → RPost w (rfeet rb (some ⟨g, 0, none⟩) fl) rb (d, .bad n 40) (.returned (.int .i64 40)) w')
      have hat := Lib.hid (rat_some hM (by omega) hi hn hf)
      clear hA hok2 hM hm hi hn hf ho
      by_cases hk0 : k < 0
      · clear hbad
        go_enter Tryd.func25, Tryd.ntmps25
        go_wp2_with fail
        refine hat.out.mono ?_
        rintro e w' ⟨rfl, hw⟩
        obtain rfl := hw.symm
        go_wp2_with fail
        go_ret
        exact hF.out _ rfl
      · have hk1 : (x.f.b.length : Int) < k := by omega
        clear hbad
        go_enter Tryd.func25, Tryd.ntmps25
        go_wp2_with fail
        refine hat.out.mono ?_
        rintro e w' ⟨rfl, hw⟩
        obtain rfl := hw.symm
        go_wp2_with fail
        go_ret
        exact hF.out _ rfl
    obtain ⟨q, rfl⟩ := Int.eq_ofNat_of_zero_le (show 0 ≤ k by omega)
    have m1 : ¬ ((q : Int) < 0) := by omega
    have m2 : ¬ ((x.f.b.length : Int) < (q : Int)) := by omega
    have hql : q ≤ x.f.b.length := by omega
    by_cases h0 : d.halt = 0
    · rw [show d.trunc n (q : Int) = (d.fall, .down) by simp only [DSt.trunc, ho, hm]; rw [if_neg (by simp), if_neg hbad, if_pos h0]]
      have hat := Lib.hid (rat_some hM (by omega) hi hn hf)
      have hmy := Lib.hid (rmay_zero hM h0)
      have hF := Lib.hid (fun w' hM' hk => RM.fell (w := w) (w' := w') (d := d) (rb := rb) (fa := some ⟨g, 0, none⟩) (c := c) (fl := fl) hM' hA hok hk)
      clear hbad hA hok2 hM hm hi hn hf ho h0
      go_enter Tryd.func25, Tryd.ntmps25
      go_wp2_with fail
      refine hat.out.mono ?_
      rintro e w' ⟨rfl, hw⟩
      obtain rfl := hw.symm
      go_wp2_with fail
      refine hmy.out.mono ?_
      rintro e w2 ⟨rfl, hM2, hk2⟩
      have HM2 := Lib.hid (And.intro hM2 hk2)
      clear hM2 hk2 hbc
      go_wp2_with fail
      go_ret
      exact hF.out _ HM2.out.1 HM2.out.2
    · have hsp : d.trunc n (q : Int) = ({ d.tick with fs := mput n ⟨x.f.b.take q, min x.f.sure q⟩ d.fs }, .ok) := by
        simp only [DSt.trunc, ho, hm]
        rw [if_neg (by simp), if_neg hbad, if_neg h0]
        rfl
      rw [hsp] at hok2 ⊢
      clear hsp hbad
      obtain ⟨iB, z, hiB, hz, hsz, hby, hzc⟩ := infoB
      have hat := Lib.hid (rat_some hM (by omega) hi hn hf)
      have hmy := Lib.hid (rmay_ok hM h0 hok.halt hc)
      have hdl := Lib.hid (hA.set (f := ⟨x.f.b.take q, min x.f.sure q⟩) (by have := rfs_at hi; rwa [hn] at this))
      have hms : x.f.b.length ≤ 1048576 := hok.most (n, x.f) (mget_mem hm)
      have HI := Lib.hid (And.intro hi hn)
      have HO := Lib.hid (And.intro hok2 ho)
      clear hA hok2 hm hi hn hf ho h0
      go_enter Tryd.func25, Tryd.ntmps25
      go_wp2_with fail
      refine hat.out.mono ?_
      rintro e w' ⟨rfl, hw⟩
      obtain rfl := hw.symm
      go_wp2_with fail
      refine hmy.out.mono ?_
      rintro e w2 ⟨rfl, hM2, hk2⟩
      have HK := Lib.hid hk2
      clear hk2 hbc hM hmy hat d1 d2 dg
      go_upto_region 10 with (fail)
      obtain ⟨d1, d2, dg⟩ := hM2.c12 HI.out.1
      have hb2 := hM2.blk
      have hRx := Lib.hid ((hM2.file x (List.mem_of_getElem? HI.out.1)).rb.take (k := q) (c' := x.c) hql (by have := (hM2.file x (List.mem_of_getElem? HI.out.1)).caps; omega) (Nat.le_refl _))
      have hqc : (q : Int) ≤ (x.c : Int) := by have := (hM2.file x (List.mem_of_getElem? HI.out.1)).caps; omega
      have hq0 : (0 : Int) ≤ (q : Int) := by omega
      have HM2 := Lib.hid hM2
      clear hM2
      go_cut [] (fun wx => ∃ ao' c', RM wx rb d.room (d.count + 1) (if 0 < d.halt then d.halt - 1 else d.halt) d.off (fl.set i ⟨x.n, ⟨x.f.b.take q, x.f.sure⟩, ao', c'⟩) (some ⟨g, 0, none⟩) c ∧ Keeps [g] w2 wx ∧ ∀ y ∈ blks ao', w2.heap.size ≤ y)
      case first =>
        have hR0 : (∀ W : World, Keeps [] w2 W → ∀ q ∈ [((3 : Nat), fun w0 : World => w0.cell? ⟨rb, 0, none⟩ = some (.slice (some ⟨g, 0, none⟩) fl.length c)), ((8 : Nat), fun w0 : World => w0.cell? ⟨rb, 0, none⟩ = some (.slice (some ⟨g, 0, none⟩) fl.length c)), ((12 : Nat), fun w0 : World => w0.cell? ⟨g, i * 3 + 1, none⟩ = some (.slice x.ao x.f.b.length x.c))], q.2 W) := fun W hW => rds3R (hW.cellSome (hb2.cell 0) (by simp)) (hW.cellSome (hb2.cell 0) (by simp)) (hW.cellSome d1 (by simp))
        have hkd := (Keeps.refl [] w2).drew
        have hSw := hR0 _ hkd
        have HR := Lib.hid hR0
        clear hR0 d1 d2
        refine startU [((3 : Nat), fun w0 : World => w0.cell? ⟨rb, 0, none⟩ = some (.slice (some ⟨g, 0, none⟩) fl.length c)), ((8 : Nat), fun w0 : World => w0.cell? ⟨rb, 0, none⟩ = some (.slice (some ⟨g, 0, none⟩) fl.length c)), ((12 : Nat), fun w0 : World => w0.cell? ⟨g, i * 3 + 1, none⟩ = some (.slice x.ao x.f.b.length x.c))] (by kernel_rfl) ?_
        generalize w2.drew = w3 at *
        have hM3 := HM2.out.keep0 hkd
        refine takeU (i := 0) (v := ?_) rfl (by kernel_rfl) (fun _ _ _ h => h) (Or.inl ⟨by rfl, fun w0 hw0 => ?_⟩) (fun p hp _ => hSw p hp) ?_
        rotate_left
        · simp [Reads] at hw0
          go_simp
          try with_reducible rfl
        try go_simp
        refine takeU (i := 1) (v := ?_) rfl (by kernel_rfl) (fun _ _ _ h => h) (Or.inl ⟨by rfl, fun w0 hw0 => ?_⟩) (fun p hp _ => hSw p hp) ?_
        rotate_left
        · simp [Reads] at hw0
          go_simp
          try with_reducible rfl
        try go_simp
        refine takeU (i := 2) (v := ?_) rfl (by kernel_rfl) (fun _ _ _ h => h) (Or.inl ⟨by rfl, fun w0 hw0 => ?_⟩) (fun p hp _ => hSw p hp) ?_
        rotate_left
        · simp [Reads] at hw0
          go_simp
          try with_reducible rfl
        try go_simp
        refine takeU (i := 3) (v := ?_) rfl (by kernel_rfl) (fun _ _ _ h => h) (Or.inl ⟨by rfl, fun w0 hw0 => ?_⟩) (fun p hp _ => hSw p hp) ?_
        rotate_left
        · simp [Reads] at hw0
          go_simp
          try with_reducible rfl
        try go_simp
        refine takeU (i := 4) (v := ?_) rfl (by kernel_rfl) (fun _ _ _ h => h) (Or.inl ⟨by rfl, fun w0 hw0 => ?_⟩) (fun p hp _ => hSw p hp) ?_
        rotate_left
        · simp [Reads] at hw0
          go_simp
          try with_reducible rfl
        try go_simp
        refine takeU (i := 5) (v := ?_) rfl (by kernel_rfl) (fun _ _ _ h => h) (Or.inl ⟨by rfl, fun w0 hw0 => ?_⟩) (fun p hp _ => hSw p hp) ?_
        rotate_left
        · simp [Reads] at hw0
          go_simp
          try with_reducible rfl
        try go_simp
        refine takeU (i := 6) (v := ?_) rfl (by kernel_rfl) (fun _ _ _ h => h) (Or.inl ⟨by rfl, fun w0 hw0 => ?_⟩) (fun p hp _ => hSw p hp) ?_
        rotate_left
        · simp [Reads] at hw0
          go_simp
          try with_reducible rfl
        try go_simp
        refine takeU (i := 7) (v := ?_) rfl (by kernel_rfl) (fun _ _ _ h => h) (Or.inl ⟨by rfl, fun w0 hw0 => ?_⟩) (fun p hp _ => hSw p hp) ?_
        rotate_left
        · simp [Reads] at hw0
          go_simp
          try with_reducible rfl
        try go_simp
        refine takeU (i := 8) (v := ?_) rfl (by kernel_rfl) (fun _ _ _ h => h) (Or.inl ⟨by rfl, fun w0 hw0 => ?_⟩) (fun p hp _ => hSw p hp) ?_
        rotate_left
        · simp [Reads] at hw0
          go_simp
          try with_reducible rfl
        try go_simp
        refine takeU (i := 9) (v := ?_) rfl (by kernel_rfl) (fun _ _ _ h => h) (Or.inl ⟨by rfl, fun w0 hw0 => ?_⟩) (fun p hp _ => hSw p hp) ?_
        rotate_left
        · simp [Reads] at hw0
          go_simp
          try with_reducible rfl
        try go_simp
        refine takeU (i := 10) (v := ?_) rfl (by kernel_rfl) (fun _ _ _ h => h) (Or.inl ⟨by rfl, fun w0 hw0 => ?_⟩) (fun p hp _ => hSw p hp) ?_
        rotate_left
        · simp [Reads] at hw0
          go_simp
          try with_reducible rfl
        try go_simp
        refine takeU (i := 11) (v := ?_) rfl (by kernel_rfl) (fun _ _ _ h => h) (Or.inl ⟨by rfl, fun w0 hw0 => ?_⟩) (fun p hp _ => hSw p hp) ?_
        rotate_left
        · simp [Reads] at hw0
          go_simp
          try with_reducible rfl
        try go_simp
        refine takeU (i := 12) (v := ?_) rfl (by kernel_rfl) (fun _ _ _ h => h) (Or.inl ⟨by rfl, fun w0 hw0 => ?_⟩) (fun p hp _ => hSw p hp) ?_
        rotate_left
        · simp [Reads] at hw0
          go_simp
          try with_reducible rfl
        try go_simp
        refine takeU (i := 13) (v := ?_) rfl (by kernel_rfl) (fun _ _ _ h => h) (Or.inl ⟨by rfl, fun w0 hw0 => ?_⟩) (fun p hp _ => hSw p hp) ?_
        rotate_left
        · simp [Reads] at hw0
          go_simp
          try with_reducible rfl
        try go_simp
        refine takeU (i := 14) (v := ?_) rfl (by kernel_rfl) (fun _ _ _ h => h) (Or.inl ⟨by rfl, fun w0 hw0 => ?_⟩) (fun p hp _ => hSw p hp) ?_
        rotate_left
        · simp [Reads] at hw0
          go_simp
          try with_reducible rfl
        try go_simp
        clear hSw
        refine oneU (i := 15) rfl (by kernel_rfl) (fun K hK => ?_)
        refine step_append_by rfl _ _ 22 22 rfl w3.heap.size 5 iB z 1 1 Tryd.underlying22 hiB hz hsz hby hzc none _ 0 _ rfl (World.ownsRow_nil _ _ _ _) _ rfl q _ (Sl.src (Sl.keep0 hRx.out hkd) Tryd.underlying22) (by unfold maxLen; omega) (by omega) (Nat.le_refl _) ?_
        intro a4 c4 w4 hO4 hk4 hb4
        have hk34 : Keeps [] w3 w4 := hk4.mono (fun x hx => by simp at hx)
        have hk24 := hkd.trans hk34
        refine hK _ _ (fun q hq _ _ => HR.out _ hk24 q hq) ?_
        clear hK K
        try go_simp
        have hM4 := hM3.keep0 hk34
        have d4 := (hM4.c12 HI.out.1).1
        have f4 := fun (o : Nat) => hM4.fzn o
        have HM4 := Lib.hid hM4
        clear hM3 hM4
        have hSw := HR.out _ hk24
        refine takeU (i := 16) (v := ?_) rfl (by kernel_rfl) (fun _ _ _ h => h) (Or.inl ⟨by rfl, fun w0 hw0 => ?_⟩) (fun p hp _ => hSw p hp) ?_
        rotate_left
        · simp [Reads] at hw0
          go_simp
          try with_reducible rfl
        try go_simp
        refine takeU (i := 17) (v := ?_) rfl (by kernel_rfl) (fun _ _ _ h => h) (Or.inl ⟨by rfl, fun w0 hw0 => ?_⟩) (fun p hp _ => hSw p hp) ?_
        rotate_left
        · simp [Reads] at hw0
          go_simp
          try with_reducible rfl
        try go_simp
        clear hSw
        refine oneU (i := 18) rfl (by kernel_rfl) (fun K hK => ?_)
        rw [if_pos (show Region.wanted _ _ = true from rfl)]
        go_wp2_with fail
        refine hK _ _ (fun p hp h1 _ => by simp only [List.mem_cons, List.not_mem_nil, or_false] at hp; rcases hp with rfl | rfl | rfl <;> exact waits_absurd h1 (by kernel_rfl)) ?_
        clear hK K
        try go_simp
        refine doneU (by kernel_rfl) ?_
        have hlq : (x.f.b.take q).length = q := by rw [List.length_take]; omega
        have h0w : w4.ownsRow w3.heap.size 5 1 (.slice a4 q c4) q ((bys x.f.b).take q) := by simpa using hO4
        have hOw : Own w4 w3.heap.size a4 c4 (x.f.b.take q) := Own.of h0w (by simp [bys, List.map_take])
        obtain ⟨hM5, hk5⟩ := HM4.out.put HI.out.1 (j := 1) (by omega) (v := .slice a4 q c4) (x' := ⟨x.n, ⟨x.f.b.take q, x.f.sure⟩, a4, c4⟩) (by simp only [RfM.cells, hlq]; rfl) (OwnG.of hOw)
        have FIN := Lib.hid (And.intro hM5 (And.intro (hk24.of_nil.step hk5 (fun x hx => .inl hx)) (fun y hy => by have := (hOw.lt y hy).1; have := hkd.size; omega : ∀ y ∈ blks a4, w2.heap.size ≤ y)))
        clear d4 f4 hM5 hk5 hOw hO4 hlq
        go_wp2_with fail
        go_meet
        exact ⟨a4, c4, FIN.out⟩
      case rest =>
      generalize wc = w5 at *
      obtain ⟨ao', c', hM5, hk5, hn5⟩ := hcut
      have hi5 : (fl.set i ⟨x.n, ⟨x.f.b.take q, x.f.sure⟩, ao', c'⟩)[i]? = some ⟨x.n, ⟨x.f.b.take q, x.f.sure⟩, ao', c'⟩ := by simp [hlt]
      obtain ⟨e1, e2, eg⟩ := hM5.c12 hi5
      have hb5 := hM5.blk
      rw [List.length_set] at hb5
      have HM5 := Lib.hid (And.intro hM5 hi5)
      clear hM5 hi5 d1 d2 dg
      simp only [] at e2
      go_upto_region 11 with (fail)
      go_cut [] (fun wx => RM wx rb d.room (d.count + 1) (if 0 < d.halt then d.halt - 1 else d.halt) d.off (fl.set i ⟨x.n, ⟨x.f.b.take q, min x.f.sure q⟩, ao', c'⟩) (some ⟨g, 0, none⟩) c ∧ Keeps [g] w5 wx)
      case first =>
        have hR0 : (∀ W : World, Keeps [] w5 W → ∀ q ∈ [((3 : Nat), fun w0 : World => w0.cell? ⟨rb, 0, none⟩ = some (.slice (some ⟨g, 0, none⟩) fl.length c)), ((8 : Nat), fun w0 : World => w0.cell? ⟨rb, 0, none⟩ = some (.slice (some ⟨g, 0, none⟩) fl.length c)), ((12 : Nat), fun w0 : World => w0.cell? ⟨g, i * 3 + 2, none⟩ = some (.int .i64 (x.f.sure : Nat)))], q.2 W) := fun W hW => rds3R (hW.cellSome (hb5.cell 0) (by simp)) (hW.cellSome (hb5.cell 0) (by simp)) (hW.cellSome e2 (by simp))
        have hkd := (Keeps.refl [] w5).drew
        have hSw := hR0 _ hkd
        clear hR0 e1 e2
        refine startU [((3 : Nat), fun w0 : World => w0.cell? ⟨rb, 0, none⟩ = some (.slice (some ⟨g, 0, none⟩) fl.length c)), ((8 : Nat), fun w0 : World => w0.cell? ⟨rb, 0, none⟩ = some (.slice (some ⟨g, 0, none⟩) fl.length c)), ((12 : Nat), fun w0 : World => w0.cell? ⟨g, i * 3 + 2, none⟩ = some (.int .i64 (x.f.sure : Nat)))] (by kernel_rfl) ?_
        generalize w5.drew = w6 at *
        have hM6 := HM5.out.1.keep0 hkd
        have d6 := (hM6.c12 HM5.out.2).2.1
        simp only [] at d6
        have f6 := fun (o : Nat) => hM6.fzn o
        have HM6 := Lib.hid hM6
        clear hM6
        by_cases hle : x.f.sure ≤ q
        · rw [Nat.min_eq_left hle]
          have g1 : (x.f.sure : Int) ≤ (q : Int) := by omega
          have g2 : ¬ ((q : Int) < (x.f.sure : Int)) := by omega
          refine takeU (i := 0) (v := ?_) rfl (by kernel_rfl) (fun _ _ _ h => h) (Or.inl ⟨by rfl, fun w0 hw0 => ?_⟩) (fun p hp _ => hSw p hp) ?_
          rotate_left
          · simp [Reads] at hw0
            go_simp
            try with_reducible rfl
          try go_simp
          refine takeU (i := 1) (v := ?_) rfl (by kernel_rfl) (fun _ _ _ h => h) (Or.inl ⟨by rfl, fun w0 hw0 => ?_⟩) (fun p hp _ => hSw p hp) ?_
          rotate_left
          · simp [Reads] at hw0
            go_simp
            try with_reducible rfl
          try go_simp
          refine takeU (i := 2) (v := ?_) rfl (by kernel_rfl) (fun _ _ _ h => h) (Or.inl ⟨by rfl, fun w0 hw0 => ?_⟩) (fun p hp _ => hSw p hp) ?_
          rotate_left
          · simp [Reads] at hw0
            go_simp
            try with_reducible rfl
          try go_simp
          refine takeU (i := 3) (v := ?_) rfl (by kernel_rfl) (fun _ _ _ h => h) (Or.inl ⟨by rfl, fun w0 hw0 => ?_⟩) (fun p hp _ => hSw p hp) ?_
          rotate_left
          · simp [Reads] at hw0
            go_simp
            try with_reducible rfl
          try go_simp
          refine takeU (i := 4) (v := ?_) rfl (by kernel_rfl) (fun _ _ _ h => h) (Or.inl ⟨by rfl, fun w0 hw0 => ?_⟩) (fun p hp _ => hSw p hp) ?_
          rotate_left
          · simp [Reads] at hw0
            go_simp
            try with_reducible rfl
          try go_simp
          refine takeU (i := 5) (v := ?_) rfl (by kernel_rfl) (fun _ _ _ h => h) (Or.inl ⟨by rfl, fun w0 hw0 => ?_⟩) (fun p hp _ => hSw p hp) ?_
          rotate_left
          · simp [Reads] at hw0
            go_simp
            try with_reducible rfl
          try go_simp
          refine takeU (i := 6) (v := ?_) rfl (by kernel_rfl) (fun _ _ _ h => h) (Or.inl ⟨by rfl, fun w0 hw0 => ?_⟩) (fun p hp _ => hSw p hp) ?_
          rotate_left
          · simp [Reads] at hw0
            go_simp
            try with_reducible rfl
          try go_simp
          refine takeU (i := 7) (v := ?_) rfl (by kernel_rfl) (fun _ _ _ h => h) (Or.inl ⟨by rfl, fun w0 hw0 => ?_⟩) (fun p hp _ => hSw p hp) ?_
          rotate_left
          · simp [Reads] at hw0
            go_simp
            try with_reducible rfl
          try go_simp
          refine takeU (i := 8) (v := ?_) rfl (by kernel_rfl) (fun _ _ _ h => h) (Or.inl ⟨by rfl, fun w0 hw0 => ?_⟩) (fun p hp _ => hSw p hp) ?_
          rotate_left
          · simp [Reads] at hw0
            go_simp
            try with_reducible rfl
          try go_simp
          refine takeU (i := 9) (v := ?_) rfl (by kernel_rfl) (fun _ _ _ h => h) (Or.inl ⟨by rfl, fun w0 hw0 => ?_⟩) (fun p hp _ => hSw p hp) ?_
          rotate_left
          · simp [Reads] at hw0
            go_simp
            try with_reducible rfl
          try go_simp
          refine takeU (i := 10) (v := ?_) rfl (by kernel_rfl) (fun _ _ _ h => h) (Or.inl ⟨by rfl, fun w0 hw0 => ?_⟩) (fun p hp _ => hSw p hp) ?_
          rotate_left
          · simp [Reads] at hw0
            go_simp
            try with_reducible rfl
          try go_simp
          refine takeU (i := 11) (v := ?_) rfl (by kernel_rfl) (fun _ _ _ h => h) (Or.inl ⟨by rfl, fun w0 hw0 => ?_⟩) (fun p hp _ => hSw p hp) ?_
          rotate_left
          · simp [Reads] at hw0
            go_simp
            try with_reducible rfl
          try go_simp
          refine takeU (i := 12) (v := ?_) rfl (by kernel_rfl) (fun _ _ _ h => h) (Or.inl ⟨by rfl, fun w0 hw0 => ?_⟩) (fun p hp _ => hSw p hp) ?_
          rotate_left
          · simp [Reads] at hw0
            go_simp
            try with_reducible rfl
          try go_simp
          refine takeU (i := 13) (v := ?_) rfl (by kernel_rfl) (fun _ _ _ h => h) (Or.inl ⟨by rfl, fun w0 hw0 => ?_⟩) (fun p hp _ => hSw p hp) ?_
          rotate_left
          · simp [Reads] at hw0
            go_simp
            try with_reducible rfl
          try go_simp
          refine takeU (i := 14) (v := ?_) rfl (by kernel_rfl) (fun _ _ _ h => h) (Or.inl ⟨by rfl, fun w0 hw0 => ?_⟩) (fun p hp _ => hSw p hp) ?_
          rotate_left
          · simp [Reads] at hw0
            go_simp
            try with_reducible rfl
          try go_simp
          refine takeU (i := 15) (v := ?_) rfl (by kernel_rfl) (fun _ _ _ h => h) (Or.inl ⟨by rfl, fun w0 hw0 => ?_⟩) (fun p hp _ => hSw p hp) ?_
          rotate_left
          · simp [Reads] at hw0
            go_simp
            try with_reducible rfl
          try go_simp
          refine takeU (i := 16) (v := ?_) rfl (by kernel_rfl) (fun _ _ _ h => h) (Or.inl ⟨by rfl, fun w0 hw0 => ?_⟩) (fun p hp _ => hSw p hp) ?_
          rotate_left
          · simp [Reads] at hw0
            go_simp
            try with_reducible rfl
          try go_simp
          clear hSw
          refine oneU (i := 17) rfl (by kernel_rfl) (fun K hK => ?_)
          rw [if_pos (show Region.wanted _ _ = true from rfl)]
          go_wp2_with fail
          refine hK _ _ (fun p hp h1 _ => by simp only [List.mem_cons, List.not_mem_nil, or_false] at hp; rcases hp with rfl | rfl | rfl <;> exact waits_absurd h1 (by kernel_rfl)) ?_
          clear hK K
          try go_simp
          refine doneU (by kernel_rfl) ?_
          obtain ⟨hM7, hk7⟩ := HM6.out.put (i := i) HM5.out.2 (j := 2) (by omega) (v := .int .i64 (x.f.sure : Nat)) (x' := ⟨x.n, ⟨x.f.b.take q, x.f.sure⟩, ao', c'⟩) rfl (HM6.out.file ⟨x.n, ⟨x.f.b.take q, x.f.sure⟩, ao', c'⟩ (List.mem_of_getElem? HM5.out.2))
          rw [List.set_set] at hM7
          have FIN := Lib.hid (And.intro hM7 (hkd.of_nil.step hk7 (fun x hx => .inl hx)))
          clear d6 f6 hM7 hk7
          go_wp2_with fail
          go_meet
          first | exact FIN.out | (rw [Nat.min_eq_left hle]; exact FIN.out)
        · rw [Nat.min_eq_right (by omega)]
          have g1 : (q : Int) < (x.f.sure : Int) := by omega
          have g2 : ¬ ((x.f.sure : Int) ≤ (q : Int)) := by omega
          refine takeU (i := 0) (v := ?_) rfl (by kernel_rfl) (fun _ _ _ h => h) (Or.inl ⟨by rfl, fun w0 hw0 => ?_⟩) (fun p hp _ => hSw p hp) ?_
          rotate_left
          · simp [Reads] at hw0
            go_simp
            try with_reducible rfl
          try go_simp
          refine takeU (i := 1) (v := ?_) rfl (by kernel_rfl) (fun _ _ _ h => h) (Or.inl ⟨by rfl, fun w0 hw0 => ?_⟩) (fun p hp _ => hSw p hp) ?_
          rotate_left
          · simp [Reads] at hw0
            go_simp
            try with_reducible rfl
          try go_simp
          refine takeU (i := 2) (v := ?_) rfl (by kernel_rfl) (fun _ _ _ h => h) (Or.inl ⟨by rfl, fun w0 hw0 => ?_⟩) (fun p hp _ => hSw p hp) ?_
          rotate_left
          · simp [Reads] at hw0
            go_simp
            try with_reducible rfl
          try go_simp
          refine takeU (i := 3) (v := ?_) rfl (by kernel_rfl) (fun _ _ _ h => h) (Or.inl ⟨by rfl, fun w0 hw0 => ?_⟩) (fun p hp _ => hSw p hp) ?_
          rotate_left
          · simp [Reads] at hw0
            go_simp
            try with_reducible rfl
          try go_simp
          refine takeU (i := 4) (v := ?_) rfl (by kernel_rfl) (fun _ _ _ h => h) (Or.inl ⟨by rfl, fun w0 hw0 => ?_⟩) (fun p hp _ => hSw p hp) ?_
          rotate_left
          · simp [Reads] at hw0
            go_simp
            try with_reducible rfl
          try go_simp
          refine takeU (i := 5) (v := ?_) rfl (by kernel_rfl) (fun _ _ _ h => h) (Or.inl ⟨by rfl, fun w0 hw0 => ?_⟩) (fun p hp _ => hSw p hp) ?_
          rotate_left
          · simp [Reads] at hw0
            go_simp
            try with_reducible rfl
          try go_simp
          refine takeU (i := 6) (v := ?_) rfl (by kernel_rfl) (fun _ _ _ h => h) (Or.inl ⟨by rfl, fun w0 hw0 => ?_⟩) (fun p hp _ => hSw p hp) ?_
          rotate_left
          · simp [Reads] at hw0
            go_simp
            try with_reducible rfl
          try go_simp
          refine takeU (i := 7) (v := ?_) rfl (by kernel_rfl) (fun _ _ _ h => h) (Or.inl ⟨by rfl, fun w0 hw0 => ?_⟩) (fun p hp _ => hSw p hp) ?_
          rotate_left
          · simp [Reads] at hw0
            go_simp
            try with_reducible rfl
          try go_simp
          refine takeU (i := 8) (v := ?_) rfl (by kernel_rfl) (fun _ _ _ h => h) (Or.inl ⟨by rfl, fun w0 hw0 => ?_⟩) (fun p hp _ => hSw p hp) ?_
          rotate_left
          · simp [Reads] at hw0
            go_simp
            try with_reducible rfl
          try go_simp
          refine takeU (i := 9) (v := ?_) rfl (by kernel_rfl) (fun _ _ _ h => h) (Or.inl ⟨by rfl, fun w0 hw0 => ?_⟩) (fun p hp _ => hSw p hp) ?_
          rotate_left
          · simp [Reads] at hw0
            go_simp
            try with_reducible rfl
          try go_simp
          refine takeU (i := 10) (v := ?_) rfl (by kernel_rfl) (fun _ _ _ h => h) (Or.inl ⟨by rfl, fun w0 hw0 => ?_⟩) (fun p hp _ => hSw p hp) ?_
          rotate_left
          · simp [Reads] at hw0
            go_simp
            try with_reducible rfl
          try go_simp
          refine takeU (i := 11) (v := ?_) rfl (by kernel_rfl) (fun _ _ _ h => h) (Or.inl ⟨by rfl, fun w0 hw0 => ?_⟩) (fun p hp _ => hSw p hp) ?_
          rotate_left
          · simp [Reads] at hw0
            go_simp
            try with_reducible rfl
          try go_simp
          refine takeU (i := 12) (v := ?_) rfl (by kernel_rfl) (fun _ _ _ h => h) (Or.inl ⟨by rfl, fun w0 hw0 => ?_⟩) (fun p hp _ => hSw p hp) ?_
          rotate_left
          · simp [Reads] at hw0
            go_simp
            try with_reducible rfl
          try go_simp
          refine takeU (i := 13) (v := ?_) rfl (by kernel_rfl) (fun _ _ _ h => h) (Or.inl ⟨by rfl, fun w0 hw0 => ?_⟩) (fun p hp _ => hSw p hp) ?_
          rotate_left
          · simp [Reads] at hw0
            go_simp
            try with_reducible rfl
          try go_simp
          refine takeU (i := 14) (v := ?_) rfl (by kernel_rfl) (fun _ _ _ h => h) (Or.inl ⟨by rfl, fun w0 hw0 => ?_⟩) (fun p hp _ => hSw p hp) ?_
          rotate_left
          · simp [Reads] at hw0
            go_simp
            try with_reducible rfl
          try go_simp
          refine takeU (i := 15) (v := ?_) rfl (by kernel_rfl) (fun _ _ _ h => h) (Or.inl ⟨by rfl, fun w0 hw0 => ?_⟩) (fun p hp _ => hSw p hp) ?_
          rotate_left
          · simp [Reads] at hw0
            go_simp
            try with_reducible rfl
          try go_simp
          refine takeU (i := 16) (v := ?_) rfl (by kernel_rfl) (fun _ _ _ h => h) (Or.inl ⟨by rfl, fun w0 hw0 => ?_⟩) (fun p hp _ => hSw p hp) ?_
          rotate_left
          · simp [Reads] at hw0
            go_simp
            try with_reducible rfl
          try go_simp
          clear hSw
          refine oneU (i := 17) rfl (by kernel_rfl) (fun K hK => ?_)
          rw [if_pos (show Region.wanted _ _ = true from rfl)]
          go_wp2_with fail
          refine hK _ _ (fun p hp h1 _ => by simp only [List.mem_cons, List.not_mem_nil, or_false] at hp; rcases hp with rfl | rfl | rfl <;> exact waits_absurd h1 (by kernel_rfl)) ?_
          clear hK K
          try go_simp
          refine doneU (by kernel_rfl) ?_
          obtain ⟨hM7, hk7⟩ := HM6.out.put (i := i) HM5.out.2 (j := 2) (by omega) (v := .int .i64 (q : Nat)) (x' := ⟨x.n, ⟨x.f.b.take q, q⟩, ao', c'⟩) rfl (HM6.out.file ⟨x.n, ⟨x.f.b.take q, x.f.sure⟩, ao', c'⟩ (List.mem_of_getElem? HM5.out.2))
          rw [List.set_set] at hM7
          have FIN := Lib.hid (And.intro hM7 (hkd.of_nil.step hk7 (fun x hx => .inl hx)))
          clear d6 f6 hM7 hk7
          go_wp2_with fail
          go_meet
          first | exact FIN.out | (rw [Nat.min_eq_right (by omega)]; exact FIN.out)
      case rest =>
      generalize wc = w7 at *
      obtain ⟨hM7, hk7⟩ := hcut
      have HM7 := Lib.hid (And.intro hM7 hk7)
      have HK5 := Lib.hid (And.intro hk5 hn5)
      clear hM7 hk7 hk5 hn5 n1 n2 n3 hqc hq0 e1 e2 m1 m2
      go_wp2_with fail
      go_ret
      refine RM.turned (d' := { d.tick with fs := mput n ⟨x.f.b.take q, min x.f.sure q⟩ d.fs }) (i := i) (x' := ⟨x.n, ⟨x.f.b.take q, min x.f.sure q⟩, ao', c'⟩) HM7.out.1 (by rw [rfs_set]; have := hdl.out; rw [← HI.out.2] at this ⊢; exact this) HO.out.1 ?_ rfl rfl (fun y hy => .inr (by have := HK5.out.2 y hy; have := HK.out.size; omega))
      exact ((HK.out.mono (fun x hx => by simp at hx; subst hx; exact .head _)).step HK5.out.1 (fun x hx => .inl (by simp at hx; subst hx; simp))).step HM7.out.2 (fun x hx => .inl (by simp at hx; subst hx; simp))
end
end Go.Proofs.YtcebbgmjbincbaaDoor
/- The document's disk beside the plain disk: Rename. -/

namespace Go.Proofs.YtcebbgmjbincbaaDoor
open Go.RowKit Go.Lib
section
variable {w w' : World} {rb room count c i g : Nat} {halt : Int} {off : Bool} {fl : List RfM} {fa : Option Addr} {L : List Nat} {x x' : RfM} {n m : List UInt8} {d : DSt}
theorem rfs_erase : rfs (fl.eraseIdx i) = (rfs fl).eraseIdx i := by simp [rfs, List.eraseIdx_eq_take_drop_succ, List.map_take, List.map_drop]
theorem rfs_add : rfs (fl.take i ++ x :: fl.drop i) = (rfs fl).take i ++ (x.n, x.f) :: (rfs fl).drop i := by simp [rfs, RfM.kv, List.map_take, List.map_drop]
/-- what add needs, from the list's place -/
theorem alike_add {gs : Fs} (hA : Alike (rfs fl) gs) (hm : mget x.n gs = none) (hlo : ∀ (j : Nat) (y : RfM), j < i → fl[j]? = some y → y.n < x.n) (hhi : ∀ y : RfM, fl[i]? = some y → ¬ y.n < x.n) : Alike (rfs (fl.take i ++ x :: fl.drop i)) (mput x.n x.f gs) := by
  rw [rfs_add]
  refine hA.add hm (fun j y hj hy => ?_) (fun y hy => ?_)
  · unfold rfs at hy
    rw [List.getElem?_map] at hy
    obtain ⟨z, hz, rfl⟩ := Option.map_eq_some_iff.1 hy
    exact hlo j z hj hz
  · unfold rfs at hy
    rw [List.getElem?_map] at hy
    obtain ⟨z, hz, rfl⟩ := Option.map_eq_some_iff.1 hy
    exact hhi z hz
/-- a list without a name, beside a map to which the name is laid anew -/
def Without (fl : List RfM) (m : List UInt8) (gs : Fs) : Prop := ∃ hs, Alike (rfs fl) hs ∧ mget m hs = none ∧ ∀ f, (mput m f hs).Perm (mput m f gs)
theorem without_none {gs : Fs} (hA : Alike (rfs fl) gs) (hm : mget m gs = none) : Without fl m gs := ⟨gs, hA, hm, fun _ => List.Perm.refl _⟩
theorem without_some {gs : Fs} (hA : Alike (rfs fl) gs) {f : Fil} (hi : (rfs fl)[i]? = some (m, f)) : Without (fl.eraseIdx i) m gs := by
  have hg := hA.get hi
  have hd := hA.del hi
  have hn : mget m (mdel m gs) = none := by rw [mget_mdel hA.nodup, if_pos rfl]
  refine ⟨mdel m gs, by rw [rfs_erase]; exact hd, hn, fun f => ?_⟩
  exact (mput_perm_none hn).trans (mput_perm_some hg).symm

set_option maxRecDepth 100000 in
set_option maxHeartbeats 8000000 in
theorem rrename (h : Ref w L rb d) (n m : List UInt8) (hml : m.length ≤ 1000000) (hc : d.count < 4611686018427387904) (hok2 : (d.rename n m).1.Ok) : Calls Tryd.prog 27 #[.pointer (some ⟨rb, 0, none⟩), .string ⟨n.toArray⟩, .string ⟨m.toArray⟩] w (RPost w L rb (d.rename n m)) := by
  obtain ⟨fl, fa, c, hM, hA, rfl, hok⟩ := h
  have hfew := hA.few hok
  have hbc := hM.blk.cell
  cases ho : d.off with
  | true =>
    rw [show d.rename n m = (d, .down) by simp [DSt.rename, ho]]
    have hF := Lib.hid (fun w' (hw : w' = w) => hM.same (r := .down) hA hok rfl (hw ▸ Keeps.refl [] w) : ∀ w', w' = w → RPost w (rfeet rb fa fl) rb (d, .down) (.returned (.int .i64 32)) w')
    have hat := Lib.hid (rat_any (n := n) hM (by omega))
    rw [ho] at hbc
    clear hA hok2 hM
    go_enter Tryd.func27, Tryd.ntmps27
    go_wp2_with fail
    refine hat.out.mono ?_
    rintro e w' ⟨z, rfl, hw⟩
    obtain rfl := hw.symm
    go_wp2_with fail
    go_ret
    exact hF.out _ rfl
  | false =>
    rw [ho] at hbc
    have hnm := named_any m w hml
    cases hr : right m with
    | false =>
      rw [show d.rename n m = (d, .bad m 20) by simp [DSt.rename, ho, hr]]
      rw [hr] at hnm
      have hF := Lib.hid (fun w' (hw : w' = w) => hM.same (r := .bad m 20) hA hok rfl (hw ▸ Keeps.refl [] w) : ∀ w', w' = w → RPost w (rfeet rb fa fl) rb (d, .bad m 20) (.returned (.int .i64 20)) w')
      have hat := Lib.hid (rat_any (n := n) hM (by omega))
      have hnm := Lib.hid hnm
      clear hA hok2 hM hr ho
      go_enter Tryd.func27, Tryd.ntmps27
      go_wp2_with fail
      refine hat.out.mono ?_
      rintro e w' ⟨z, rfl, hw⟩
      obtain rfl := hw.symm
      go_wp2_with fail
      refine hnm.out.mono ?_
      rintro e w' ⟨rfl, hw⟩
      obtain rfl := hw.symm
      go_wp2_with fail
      go_ret
      exact hF.out _ rfl
    | true =>
      rw [hr] at hnm
      have hnm := Lib.hid hnm
      rcases alike_find hA n with ⟨i, x, hi, hn, hm, hf⟩ | ⟨hm, hf⟩
      rotate_left
      · rw [show d.rename n m = (d, .bad n 30) by simp [DSt.rename, ho, hr, hm]]
        have hF := Lib.hid (fun w' (hw : w' = w) => hM.same (r := .bad n 30) hA hok rfl (hw ▸ Keeps.refl [] w) : ∀ w', w' = w → RPost w (rfeet rb fa fl) rb (d, .bad n 30) (.returned (.int .i64 30)) w')
        have hat := Lib.hid (rat_none hM (by omega) hf)
        clear hA hok2 hM hm hf ho hr
        go_enter Tryd.func27, Tryd.ntmps27
        go_wp2_with fail
        refine hat.out.mono ?_
        rintro e w' ⟨rfl, hw⟩
        obtain rfl := hw.symm
        go_wp2_with fail
        refine hnm.out.mono ?_
        rintro e w' ⟨rfl, hw⟩
        obtain rfl := hw.symm
        go_wp2_with fail
        go_ret
        exact hF.out _ rfl
      have n1 : ¬ ((i : Int) < 0) := by omega
      by_cases h0 : d.halt = 0
      · rw [show d.rename n m = (d.fall, .down) by simp [DSt.rename, ho, hr, hm, h0]]
        have hat := Lib.hid (rat_some hM (by omega) hi hn hf)
        have hmy := Lib.hid (rmay_zero hM h0)
        have hF := Lib.hid (fun w' hM' hk => RM.fell (w := w) (w' := w') (d := d) (rb := rb) (fa := fa) (c := c) (fl := fl) hM' hA hok hk)
        clear hA hok2 hM hm hi hn hf ho h0 hr
        go_enter Tryd.func27, Tryd.ntmps27
        go_wp2_with fail
        refine hat.out.mono ?_
        rintro e w' ⟨rfl, hw⟩
        obtain rfl := hw.symm
        go_wp2_with fail
        refine hnm.out.mono ?_
        rintro e w' ⟨rfl, hw⟩
        obtain rfl := hw.symm
        go_wp2_with fail
        refine hmy.out.mono ?_
        rintro e w2 ⟨rfl, hM2, hk2⟩
        have HM2 := Lib.hid (And.intro hM2 hk2)
        clear hM2 hk2 hbc
        go_wp2_with fail
        go_ret
        exact hF.out _ HM2.out.1 HM2.out.2
      have hat := Lib.hid (rat_some hM (by omega) hi hn hf)
      have hmy := Lib.hid (rmay_ok hM h0 hok.halt hc)
      by_cases hnm2 : n = m
      · rw [show d.rename n m = (d.tick, .ok) by simp only [DSt.rename, ho, hr, hm]; rw [if_neg (by simp), if_neg (by simp), if_neg h0, if_pos hnm2]]
        rw [show d.rename n m = (d.tick, .ok) by simp only [DSt.rename, ho, hr, hm]; rw [if_neg (by simp), if_neg (by simp), if_neg h0, if_pos hnm2]] at hok2
        have HO := Lib.hid (And.intro hok2 hA)
        have e1 : (n == m) = true := by simp [hnm2]
        clear hA hok2 hM hm hi hn hf ho h0 hr hnm2
        go_enter Tryd.func27, Tryd.ntmps27
        go_wp2_with fail
        refine hat.out.mono ?_
        rintro e w' ⟨rfl, hw⟩
        obtain rfl := hw.symm
        go_wp2_with fail
        refine hnm.out.mono ?_
        rintro e w' ⟨rfl, hw⟩
        obtain rfl := hw.symm
        go_wp2_with fail
        refine hmy.out.mono ?_
        rintro e w2 ⟨rfl, hM2, hk2⟩
        have HM2 := Lib.hid (And.intro hM2 hk2)
        clear hM2 hk2 hbc
        go_wp2_with fail
        go_ret
        exact ⟨rfl, _, ⟨fl, fa, c, HM2.out.1, HO.out.2, rfl, HO.out.1⟩, HM2.out.2.mono (fun x hx => by simp at hx; subst hx; exact .head _), fun _ hx => .inl hx⟩
      have hsp : d.rename n m = ({ d.tick with fs := mput m x.f (mdel n d.fs) }, .ok) := by
        simp only [DSt.rename, ho, hr, hm]
        rw [if_neg (by simp), if_neg (by simp), if_neg h0, if_neg hnm2]
      rw [hsp] at hok2 ⊢
      have e1 : (n == m) = false := by simpa using hnm2
      have hA1 : Alike (rfs (fl.eraseIdx i)) (mdel n d.fs) := by rw [rfs_erase]; exact hA.del (by have := rfs_at hi; rwa [hn] at this)
      have hle : (fl.eraseIdx i).length ≤ 64 := by have := (List.eraseIdx_sublist fl i).length_le; omega
      have HA := Lib.hid hA1
      have HO := Lib.hid hok2
      have HI := Lib.hid (And.intro hi hle)
      have hao := Lib.hid (hM.rb_ao (List.mem_of_getElem? hi))
      have hxo := Lib.hid (hM.file x (List.mem_of_getElem? hi))
      clear hA hA1 hok2 hM hm hi hn hf ho h0 hr hnm2 hsp hle
      go_enter Tryd.func27, Tryd.ntmps27
      go_wp2_with fail
      refine hat.out.mono ?_
      rintro e w' ⟨rfl, hw⟩
      obtain rfl := hw.symm
      go_wp2_with fail
      refine hnm.out.mono ?_
      rintro e w' ⟨rfl, hw⟩
      obtain rfl := hw.symm
      go_wp2_with fail
      refine hmy.out.mono ?_
      rintro e w2 ⟨rfl, hM2, hk2⟩
      have htk := Lib.hid (rtake hM2 HI.out.1 (by omega))
      have HK2 := Lib.hid (And.intro hM2 hk2)
      clear hM2 hk2 hbc hat hmy hnm
      go_wp2_with fail
      refine htk.out.mono ?_
      rintro e w3 ⟨rfl, fa3, c3, hM3, hk3, hn3⟩
      have hX3 := Blk.fresh w3 65 #[.string ⟨x.n.toArray⟩, .slice x.ao x.f.b.length x.c, .int .i64 (x.f.sure : Nat)]
      have hk34 := (Keeps.refl [] w3).alloc (.cells #[.string ⟨x.n.toArray⟩, .slice x.ao x.f.b.length x.c, .int .i64 (x.f.sure : Nat)] 65)
      have hM4 := hM3.keep0 hk34
      have hk24 := hk3.step hk34 (fun x hx => by cases hx)
      have hx2 := hxo.out.keep HK2.out.2 (fun y hy => by simp; rintro rfl; exact hao.out hy)
      have hx4 := hx2.keep hk24 (fun y hy => by simp; rintro rfl; exact hao.out hy)
      have hs3 : rb < w3.heap.size := hM3.blk.lt
      have hs23 : w2.heap.size ≤ w3.heap.size := hk3.size
      have hf3 : ∀ y ∈ blks fa3, y < w3.heap.size := fun y hy => (own_lt hM3.own y hy).2
      have H4 := Lib.hid (And.intro hM4 (And.intro hk24 (And.intro hn3 hx4)))
      clear hM3 hk3 hn3 hk34 hM4 hk24 hx2 hx4 htk
      go_upto_region 13 with (refine wpList_store_fresh rfl rfl _ _ _ rfl _ rfl rfl _ rfl _ _ sizeRF (by simp) rfl ?_)
      change Code.wp _ _ _ _ (World.alloc w3 (.cells #[.string ⟨x.n.toArray⟩, .slice x.ao x.f.b.length x.c, .int .i64 (x.f.sure : Nat)] 65))
      generalize World.alloc w3 _ = w4 at *
      generalize w3.heap.size = s at *
      have hle := HI.out.2
      go_cut [9] (fun v wx => ∃ z : Int, v = .int .i64 z ∧ wx = w4 ∧ ((∃ (k : Nat) (y : RfM), z = (k : Nat) ∧ (fl.eraseIdx i)[k]? = some y ∧ y.n = m) ∨ (z = -1 ∧ mget m (mdel n d.fs) = none)))
      case first =>
        rcases alike_find (d := { d with fs := mdel n d.fs }) HA.out m with ⟨k, y, hk, hy, hmk, hfk⟩ | ⟨hmk, hfk⟩
        · have hat := Lib.hid (rat_some H4.out.1 (by omega) hk hy hfk)
          have HY := Lib.hid (And.intro hk hy)
          clear hk hy hmk hfk
          go_wp2_with fail
          refine hat.out.mono ?_
          rintro e w5 ⟨rfl, hw⟩
          obtain rfl := hw.symm
          go_wp2_with fail
          go_meet
          exact ⟨_, rfl, rfl, .inl ⟨k, y, rfl, HY.out.1, HY.out.2⟩⟩
        · have hat := Lib.hid (rat_none H4.out.1 (by omega) hfk)
          have HY := Lib.hid hmk
          clear hmk hfk
          go_wp2_with fail
          refine hat.out.mono ?_
          rintro e w5 ⟨rfl, hw⟩
          obtain rfl := hw.symm
          go_wp2_with fail
          go_meet
          exact ⟨_, rfl, rfl, .inr ⟨rfl, HY.out⟩⟩
      case rest =>
      obtain ⟨z, rfl, hw, hv⟩ := hcut
      obtain rfl := hw.symm
      have HV := Lib.hid hv
      clear hv
      go_upto_if 40 with (fail)
      go_cut [] (fun wx => ∃ fl5 fa5 c5, RM wx rb d.room (d.count + 1) (if 0 < d.halt then d.halt - 1 else d.halt) d.off fl5 fa5 c5 ∧ Without fl5 m (mdel n d.fs) ∧ fl5.length ≤ 64 ∧ (∀ y ∈ fl5, y ∈ fl) ∧ Keeps [rb] w4 wx ∧ ∀ y ∈ blks fa5, w2.heap.size ≤ y ∧ y ≠ s)
      case first =>
        rcases HV.out with ⟨k, y, rfl, hk, hy⟩ | ⟨rfl, hmk⟩
        · have htk := Lib.hid (rtake H4.out.1 hk (by omega))
          have HY := Lib.hid (And.intro hk hy)
          have n4 : (0 : Int) ≤ (k : Int) := by omega
          clear hk hy
          go_wp2_with fail
          refine htk.out.mono ?_
          rintro e w5 ⟨rfl, fa5, c5, hM5, hk5, hn5⟩
          have FIN := Lib.hid (And.intro hM5 (And.intro hk5 hn5))
          have hs4 : s < w4.heap.size := hX3.lt
          have h24 := H4.out.2.1.size
          clear hM5 hk5 hn5 htk
          go_wp2_with fail
          go_meet
          obtain ⟨hM5, hk5, hn5⟩ := FIN.out
          refine ⟨_, fa5, c5, hM5, without_some HA.out (by have := rfs_at HY.out.1; rwa [HY.out.2] at this), by have := (List.eraseIdx_sublist (fl.eraseIdx i) k).length_le; omega, fun y hy => (List.eraseIdx_sublist fl i).subset ((List.eraseIdx_sublist _ k).subset hy), hk5, fun y hy => by have := hn5 y hy; omega⟩
        · have n4 : ¬ ((0 : Int) ≤ (-1 : Int)) := by omega
          have HY := Lib.hid hmk
          clear hmk
          go_wp2_with fail
          go_meet
          exact ⟨_, fa3, c3, H4.out.1, without_none HA.out HY.out, by omega, fun y hy => (List.eraseIdx_sublist fl i).subset hy, Keeps.refl _ _, fun y hy => ⟨H4.out.2.2.1 y hy, by have := hf3 y hy; omega⟩⟩
      case rest =>
      generalize wc = w5 at *
      obtain ⟨fl5, fa5, c5, hM5, hW5, hl5, hsub, hk45, hn5⟩ := hcut
      have hX5 := hX3.keep hk45 (by simp; omega)
      have hc5 := hX5.cell
      have hf5 := hX5.free
      have hs4 : s < w5.heap.size := hX5.lt
      have hx5 := H4.out.2.2.2.keep hk45 (fun y hy => by simp; rintro rfl; exact hao.out hy)
      have H5 := Lib.hid (And.intro hM5 (And.intro hW5 (And.intro hk45 (And.intro hsub hx5))))
      clear hM5 hW5 hk45 hsub hx5
      go_upto_region 17 with (fail)
      have hX6 := (hX5.put 0 (.string ⟨m.toArray⟩)).eq (cs' := #[.string ⟨m.toArray⟩, .slice x.ao x.f.b.length x.c, .int .i64 (x.f.sure : Nat)]) (by simp)
      have hk6 := (Keeps.refl [s] w5).set (p := ⟨s, 0, none⟩) (.inl (by simp)) (.string ⟨m.toArray⟩)
      generalize World.setCell w5 _ _ = w6 at *
      clear hc5 hf5
      obtain ⟨hM5, hW5, hk45, hsub, hx5⟩ := H5.out
      have hoffs : ∀ (ao : Option Addr) (d : Nat) (l : List UInt8), OwnG w5 ao d l → ∀ y ∈ blks ao, y ∉ [s] := by
        intro ao d l ho y hy
        simp
        rintro rfl
        obtain ⟨cs, hcs⟩ := ho.bytes _ hy
        exact absurd rfl (hX5.ne (b' := y) hcs (by decide))
      have hM6 := hM5.keep hk6 (fun y hy => by
        rcases mem_rfeet.1 hy with rfl | hy | ⟨f, hf, hy⟩
        · simp; omega
        · simp; exact (hn5 y hy).2
        · exact hoffs _ _ _ (hM5.file f hf) y hy)
      have hx6 := hx5.keep hk6 (hoffs _ _ _ hx5)
      obtain ⟨p, hp1, hp2, hp3⟩ := add_place m fl5
      have had := radd (x := ⟨m, x.f, x.ao, x.c⟩) hM6 (by omega) hx6 hp1 hp2 hp3
      have HAD := Lib.hid had
      have HP := Lib.hid (And.intro hp1 (And.intro hp2 hp3))
      have HK6 := Lib.hid (And.intro hk6 hx6)
      clear had hM6 hx6 hM5 hx5 hoffs hp1 hp2 hp3 hk6 hsub hW5 hk45
      go_wp2_with (refine wpList_load_agg rfl _ _ rfl s 0 3 rfl 65 _ _ hX6 Tryd.underlying65 rfl sizeRF (by simp) _ rfl ?_)
      refine HAD.out.mono ?_
      rintro e w7 ⟨rfl, fa7, c7, hM7, hk7, hn7⟩
      have HM7 := Lib.hid (And.intro hM7 (And.intro hk7 hn7))
      clear hM7 hk7 hn7 HAD hX6 hX5 hX3
      go_wp2_with fail
      go_ret
      obtain ⟨hM7, hk7, hn7⟩ := HM7.out
      obtain ⟨hM5, hW5, hk45, hsub, hx5⟩ := H5.out
      obtain ⟨hM4, hk24, hn3, hx4⟩ := H4.out
      obtain ⟨hs, hAs, hms, hpm⟩ := hW5
      have hsz : w.heap.size ≤ w2.heap.size := HK2.out.2.size
      have hk06 : Keeps [rb] w w5 := ((HK2.out.2).step hk24 (fun x hx => .inl hx)).step hk45 (fun x hx => .inl hx)
      refine ⟨rfl, _, ⟨_, fa7, c7, hM7, (alike_add (x := ⟨m, x.f, x.ao, x.c⟩) hAs hms HP.out.2.1 HP.out.2.2).of (hpm x.f), rfl, HO.out⟩, ?_, fun y hy => ?_⟩
      · refine ((hk06.step HK6.out.1 (fun x hx => .inr ?_)).mono (L' := rfeet rb fa fl) (fun x hx => by simp at hx; subst hx; exact .head _)).step hk7 (fun x hx => ?_)
        · simp at hx; have := hk24.size; omega
        · rcases List.mem_cons.1 hx with rfl | hx
          · exact .inl (.head _)
          · exact .inr (by have := (hn5 x hx).1; omega)
      · have h56 := HK6.out.1.size
        have h05 := hk06.size
        rcases mem_rfeet.1 hy with rfl | hy | ⟨f, hf, hy⟩
        · exact .inl (.head _)
        · rcases hn7 y hy with h | h
          · exact .inr (by have := (hn5 y h).1; omega)
          · exact .inr (by omega)
        · have hxm : x ∈ fl := List.mem_of_getElem? HI.out.1
          rcases List.mem_append.1 hf with hf | hf
          · exact .inl (mem_rfeet.2 (.inr (.inr ⟨f, hsub _ (List.mem_of_mem_take hf), hy⟩)))
          · rcases List.mem_cons.1 hf with rfl | hf
            · exact .inl (mem_rfeet.2 (.inr (.inr ⟨x, hxm, hy⟩)))
            · exact .inl (mem_rfeet.2 (.inr (.inr ⟨f, hsub _ (List.mem_of_mem_drop hf), hy⟩)))
end
end Go.Proofs.YtcebbgmjbincbaaDoor
/- The document's disk beside the plain disk: Append. -/

namespace Go.Proofs.YtcebbgmjbincbaaDoor
open Go.RowKit Go.Lib
section
variable {w w' : World} {rb room count c i g : Nat} {halt : Int} {off : Bool} {fl : List RfM} {fa : Option Addr} {L : List Nat} {x x' : RfM} {n b : List UInt8} {d : DSt}
theorem set_add (p : Nat) (hp : p ≤ fl.length) (x' : RfM) : (fl.take p ++ x :: fl.drop p).set p x' = fl.take p ++ x' :: fl.drop p := by
  have h1 : (fl.take p).length = p := by rw [List.length_take]; omega
  rw [List.set_append_right _ _ (by omega), h1, Nat.sub_self]
  rfl
theorem get_add (p : Nat) (hp : p ≤ fl.length) : (fl.take p ++ x :: fl.drop p)[p]? = some x := by
  have h1 : (fl.take p).length = p := by rw [List.length_take]; omega
  rw [List.getElem?_append_right (by omega), h1, Nat.sub_self]
  rfl
/-- what the disk has at a name, by number -/
def At (fl : List RfM) (d : DSt) (n : List UInt8) (z : Int) : Prop := (∃ (i : Nat) (x : RfM), z = (i : Nat) ∧ fl[i]? = some x ∧ x.n = n ∧ mget n d.fs = some x.f) ∨ (z = -1 ∧ mget n d.fs = none)
theorem rat_at (hM : RM w rb room count halt off fl fa c) (hA : Alike (rfs fl) d.fs) (hm : fl.length ≤ 1000) (n : List UInt8) : ∃ z, At fl d n z ∧ Calls Tryd.prog 53 #[.pointer (some ⟨rb, 0, none⟩), .string ⟨n.toArray⟩] w fun e w' => e = .returned (.int .i64 z) ∧ w' = w := by
  rcases alike_find hA n with ⟨i, x, hi, hn, hmg, hf⟩ | ⟨hmg, hf⟩
  · exact ⟨_, .inl ⟨i, x, rfl, hi, hn, hmg⟩, rat_some hM hm hi hn hf⟩
  · exact ⟨_, .inr ⟨rfl, hmg⟩, rat_none hM hm hf⟩
/-- a full disk -/
def fullB (d : DSt) (n b : List UInt8) : Bool := decide (d.room < usedOf d.fs + b.length ∨ (mget n d.fs = none ∧ 64 ≤ d.fs.length) ∨ 1048576 < (d.got n).b.length + b.length)
set_option maxRecDepth 100000 in
set_option maxHeartbeats 8000000 in
theorem rappend (h : Ref w L rb d) (n b : List UInt8) {ba : Option Addr} {bc : Nat} (hR : Rb w ba bc b) (hbL : ∀ ad, ba = some ad → b ≠ [] → ad.block ∉ L) (hbl : b.length ≤ 1000000) (hnl : n.length ≤ 1000000) (hroom : d.room ≤ 1000000) (hc : d.count < 4611686018427387904) (hok2 : (d.append n b).1.Ok) : Calls Tryd.prog 21 #[.pointer (some ⟨rb, 0, none⟩), .string ⟨n.toArray⟩, .slice ba b.length bc] w (RPost w L rb (d.append n b)) := by
  obtain ⟨fl, fa, c, hM, hA, rfl, hok⟩ := h
  have hfew := hA.few hok
  have hbc := hM.blk.cell
  have hblt := hM.blk.lt
  cases ho : d.off with
  | true =>
    rw [show d.append n b = (d, .down) by simp [DSt.append, ho]]
    have hF := Lib.hid (hM.same (r := .down) hA hok (z := 32) rfl (Keeps.refl [] w))
    rw [ho] at hbc
    clear hA hok2 hM
    go_enter Tryd.func21, Tryd.ntmps21
    go_wp2_with fail
    go_ret
    exact hF.out
  | false =>
    obtain ⟨z, hz, hat⟩ := rat_at hM hA (by omega) n
    have hat := Lib.hid hat
    have hnm := named_any n w hnl
    obtain ⟨q, hq⟩ : ∃ q, q = fullB d n b := ⟨_, rfl⟩
    obtain ⟨hs, hhs⟩ : ∃ hs, hs = (d.got n).b.length := ⟨_, rfl⟩
    have hs0 : hs ≤ 1048576 := by
      rw [hhs]
      unfold DSt.got
      cases hg : mget n d.fs with
      | none => simp
      | some f => exact hok.most (n, f) (mget_mem hg)
    have hus := hok.used
    have hul := hA.used
    have hll := hA.length
    rw [rfs_length] at hll
    have hmy0 := fun h0 => rmay_zero hM h0
    have hmy1 := fun h0 => rmay_ok hM h0 hok.halt hc
    have husd := fun W (hW : Keeps [] w W) => rused (hM.keep0 hW) (by omega) (by omega)
    obtain ⟨u, hu⟩ : ∃ u, u = usedOf d.fs := ⟨_, rfl⟩
    simp only [hul, ← hu] at husd
    have HD := Lib.hid (And.intro hz (And.intro hq (And.intro hhs (And.intro hu (And.intro hll (And.intro hA (And.intro hok hok2)))))))
    have HM := Lib.hid (And.intro hM (And.intro hR (And.intro hbL (And.intro hmy0 (And.intro hmy1 husd)))))
    have husm : u ≤ 1000000 := by omega
    have hnm := Lib.hid hnm
    have HO := Lib.hid ho
    rw [ho] at hbc
    clear hz hq hhs hu hll hA hok hok2 hM hR hbL hmy0 hmy1 husd hus hul ho
    go_enter Tryd.func21, Tryd.ntmps21
    go_upto_if 12 with (fail)
    go_wp2_with fail
    refine hat.out.mono ?_
    rintro e w' ⟨rfl, hw⟩
    obtain rfl := hw.symm
    clear hat
    go_upto_if 17 with (fail)
    go_cut [8] (fun v wx => v = .int .i64 (hs : Int) ∧ wx = w)
    case first =>
      rcases HD.out.1 with ⟨i, x, rfl, hi, hn, hm⟩ | ⟨rfl, hm⟩
      · have hlt := (List.getElem?_eq_some_iff.1 hi).1
        obtain ⟨g, rfl, hg, -, c1, -⟩ := HM.out.1.cells hi
        have hxs : x.f.b.length = hs := by rw [HD.out.2.2.1, DSt.got_some hm]
        rw [hxs] at c1
        have n1 : (0 : Int) ≤ (i : Int) := by omega
        have n2 : (i : Int) < (fl.length : Int) := by omega
        clear hi hn hm hxs
        go_wp2_with fail
        go_meet
        exact ⟨rfl, rfl⟩
      · have hxs : hs = 0 := by rw [HD.out.2.2.1, DSt.got_none hm]; rfl
        subst hxs
        clear hm
        go_wp2_with fail
        go_meet
        exact ⟨rfl, rfl⟩
    case rest =>
    obtain ⟨rfl, hw⟩ := hcut
    obtain rfl := hw.symm
    cases hr : right n with
    | false =>
      have hnm := hnm.out
      rw [hr] at hnm
      have hF := Lib.hid (HM.out.1.same (r := .bad n 20) HD.out.2.2.2.2.2.1 HD.out.2.2.2.2.2.2.1 (z := 20) rfl (Keeps.refl [] w))
      have hsp : d.append n b = (d, .bad n 20) := by simp [DSt.append, HO.out, hr]
      have HS := Lib.hid hsp
      have hnm := Lib.hid hnm
      clear hr hsp
      go_wp2_with fail
      refine hnm.out.mono ?_
      rintro e w' ⟨rfl, hw⟩
      obtain rfl := hw.symm
      go_wp2_with fail
      go_ret
      rw [HS.out]
      exact hF.out
    | true =>
    have hnm2 := hnm.out
    rw [hr] at hnm2
    have hnm2 := Lib.hid hnm2
    have HR := Lib.hid hr
    clear hr hnm
    go_wp2_with fail
    refine hnm2.out.mono ?_
    rintro e w' ⟨rfl, hw⟩
    obtain rfl := hw.symm
    go_upto_region 9 with (fail)
    go_cut [31] (fun v wx => v = .bool q ∧ Keeps [] w wx)
    case first =>
      have hq := HD.out.2.1
      unfold fullB at hq
      rw [← HD.out.2.2.1, ← HD.out.2.2.2.1] at hq
      have q1 : IntKind.i64.wrap ((u : Int) + (b.length : Int)) = (u : Int) + (b.length : Int) := IntWalk.i64_in _ (by omega)
      have q2 : IntKind.i64.wrap ((hs : Int) + (b.length : Int)) = (hs : Int) + (b.length : Int) := IntWalk.i64_in _ (by omega)
      have HU := Lib.hid HM.out.2.2.2.2.2
      by_cases cA : d.room < u + b.length
      · obtain rfl : q = true := by rw [hq]; simp [cA]
        have g1 : (d.room : Int) < (u : Int) + (b.length : Int) := by omega
        have g1' : ¬ ((u : Int) + (b.length : Int) ≤ (d.room : Int)) := by omega
        clear hq cA
        go_quiet ((go_at_call 35; exact Calls.quiet_of_same (HU.out _ ((Keeps.refl [] w).drewN _))))
        go_wp2_with fail
        go_meet
        exact ⟨by simp, (Keeps.refl [] w).drewN _⟩
      have g1 : ¬ ((d.room : Int) < (u : Int) + (b.length : Int)) := by omega
      have g1' : (u : Int) + (b.length : Int) ≤ (d.room : Int) := by omega
      by_cases cB : 1048576 < hs + b.length
      · obtain rfl : q = true := by rw [hq]; simp [cB]
        have g2 : (1048576 : Int) < (hs : Int) + (b.length : Int) := by omega
        have g2' : ¬ ((hs : Int) + (b.length : Int) ≤ 1048576) := by omega
        clear hq cA cB
        go_quiet ((go_at_call 35; exact Calls.quiet_of_same (HU.out _ ((Keeps.refl [] w).drewN _))))
        go_wp2_with fail
        go_meet
        exact ⟨by simp, (Keeps.refl [] w).drewN _⟩
      have g2 : ¬ ((1048576 : Int) < (hs : Int) + (b.length : Int)) := by omega
      have g2' : (hs : Int) + (b.length : Int) ≤ 1048576 := by omega
      rcases HD.out.1 with ⟨i, x, rfl, hi, hn, hm⟩ | ⟨rfl, hm⟩
      · obtain rfl : q = false := by rw [hq, hm]; simp; omega
        have g3 : ¬ ((i : Int) < 0) := by omega
        clear hq cA cB hi hn hm
        go_quiet ((go_at_call 35; exact Calls.quiet_of_same (HU.out _ ((Keeps.refl [] w).drewN _))))
        go_wp2_with fail
        go_meet
        exact ⟨by simp, (Keeps.refl [] w).drewN _⟩
      · have hll := HD.out.2.2.2.2.1
        by_cases cC : 64 ≤ fl.length
        · obtain rfl : q = true := by rw [hq, hm]; simp; omega
          have g3 : (64 : Int) ≤ (fl.length : Int) := by omega
          clear hq cA cB hm hll cC
          go_quiet ((go_at_call 35; exact Calls.quiet_of_same (HU.out _ ((Keeps.refl [] w).drewN _))))
          go_wp2_with fail
          go_meet
          exact ⟨by simp, (Keeps.refl [] w).drewN _⟩
        · obtain rfl : q = false := by rw [hq, hm]; simp; omega
          have g3 : ¬ ((64 : Int) ≤ (fl.length : Int)) := by omega
          clear hq cA cB hm hll cC
          go_quiet ((go_at_call 35; exact Calls.quiet_of_same (HU.out _ ((Keeps.refl [] w).drewN _))))
          go_wp2_with fail
          go_meet
          exact ⟨by simp, (Keeps.refl [] w).drewN _⟩
    case rest =>
    generalize wc = w1 at *
    obtain ⟨rfl, hk1⟩ := hcut
    clear hbc hblt
    have HK1 := Lib.hid hk1
    cases q with
    | true =>
      have hsp : d.append n b = (d, .bad n 31) := by
        have h1 := HD.out.2.1
        unfold fullB at h1
        simp only [DSt.append]
        rw [if_neg (by rw [HO.out]; simp), if_neg (by rw [HR.out]; simp), if_pos (by simpa using h1.symm)]
      have hF := Lib.hid (HM.out.1.same (r := .bad n 31) HD.out.2.2.2.2.2.1 HD.out.2.2.2.2.2.2.1 (z := 31) rfl hk1)
      have HS := Lib.hid hsp
      clear hsp hk1
      go_wp2_with fail
      go_ret
      rw [HS.out]
      exact hF.out
    | false =>
    have hnf : ¬ (d.room < usedOf d.fs + b.length ∨ (mget n d.fs = none ∧ 64 ≤ d.fs.length) ∨ 1048576 < (d.got n).b.length + b.length) := by
      have h1 := HD.out.2.1
      unfold fullB at h1
      simpa using h1.symm
    have HN := Lib.hid hnf
    clear hnf
    have hM1 := HM.out.1.keep0 hk1
    have hA := HD.out.2.2.2.2.2.1
    have hok := HD.out.2.2.2.2.2.2.1
    by_cases h0 : d.halt = 0
    · have hsp : d.append n b = (d.fall, .down) := by
        simp only [DSt.append]
        rw [if_neg (by rw [HO.out]; simp), if_neg (by rw [HR.out]; simp), if_neg HN.out, if_pos h0]
      have hmy := Lib.hid (rmay_zero hM1 h0)
      have hF := Lib.hid (fun w' hM' hk => RM.fell (w := w) (w' := w') (d := d) (rb := rb) (fa := fa) (c := c) (fl := fl) hM' hA hok hk)
      have HS := Lib.hid hsp
      clear hsp hk1 hM1 hA hok h0
      go_wp2_with fail
      refine hmy.out.mono ?_
      rintro e w2 ⟨rfl, hM2, hk2⟩
      have HM2 := Lib.hid (And.intro hM2 hk2)
      clear hM2 hk2
      go_wp2_with fail
      go_ret
      rw [HS.out]
      exact hF.out _ HM2.out.1 (HK1.out.of_nil.step HM2.out.2 (fun x hx => .inl hx))
    have hsp : d.append n b = ({ d.tick with fs := mput n ⟨(d.got n).b ++ b, (d.got n).sure⟩ d.fs }, .ok) := by
      simp only [DSt.append]
      rw [if_neg (by rw [HO.out]; simp), if_neg (by rw [HR.out]; simp), if_neg HN.out, if_neg h0]
    have hok2 := HD.out.2.2.2.2.2.2.2
    rw [hsp] at hok2
    have HS := Lib.hid (And.intro hsp hok2)
    have hmy := Lib.hid (rmay_ok hM1 h0 hok.halt hc)
    clear hsp hok2 hM1 hA hok h0 hk1
    go_wp2_with fail
    refine hmy.out.mono ?_
    rintro e w2 ⟨rfl, hM2, hk2⟩
    have hk02 : Keeps [rb] w w2 := HK1.out.of_nil.step hk2 (fun x hx => .inl hx)
    have HM2 := Lib.hid (And.intro hM2 hk02)
    clear hM2 hk2 hk02 hmy
    go_upto_if 66 with (fail)
    go_cut [7] (fun v wx => ∃ (i : Nat) (fl2 : List RfM) (fa2 : Option Addr) (c2 : Nat) (x : RfM), v = .int .i64 (i : Nat) ∧ RM wx rb d.room (d.count + 1) (if 0 < d.halt then d.halt - 1 else d.halt) d.off fl2 fa2 c2 ∧ fl2[i]? = some x ∧ x.n = n ∧ x.f = d.got n ∧ (∀ x' : RfM, x'.n = n → Alike (rfs (fl2.set i x')) (mput n x'.f d.fs)) ∧ fl2.length ≤ 65 ∧ Keeps (rb :: blks fa) w wx ∧ (∀ f ∈ fl2, ∀ y ∈ blks f.ao, y ∈ rfeet rb fa fl) ∧ (∀ y ∈ blks fa2, y ∈ blks fa ∨ w.heap.size ≤ y))
    case first =>
      have hA := HD.out.2.2.2.2.2.1
      rcases HD.out.1 with ⟨i, x, rfl, hi, hn, hm⟩ | ⟨rfl, hm⟩
      · have g3 : ¬ ((i : Int) < 0) := by omega
        have hfin : ∃ (i' : Nat) (fl2 : List RfM) (fa2 : Option Addr) (c2 : Nat) (x : RfM), (Value.int .i64 (i : Nat)) = .int .i64 (i' : Nat) ∧ RM w2 rb d.room (d.count + 1) (if 0 < d.halt then d.halt - 1 else d.halt) d.off fl2 fa2 c2 ∧ fl2[i']? = some x ∧ x.n = n ∧ x.f = d.got n ∧ (∀ x' : RfM, x'.n = n → Alike (rfs (fl2.set i' x')) (mput n x'.f d.fs)) ∧ fl2.length ≤ 65 ∧ Keeps (rb :: blks fa) w w2 ∧ (∀ f ∈ fl2, ∀ y ∈ blks f.ao, y ∈ rfeet rb fa fl) ∧ (∀ y ∈ blks fa2, y ∈ blks fa ∨ w.heap.size ≤ y) := by
          refine ⟨i, fl, fa, c, x, rfl, HM2.out.1, hi, hn, (DSt.got_some hm).symm, fun x' hx' => ?_, by omega, HM2.out.2.mono (fun x hx => by simp at hx; subst hx; exact .head _), fun f hf y hy => mem_rfeet.2 (.inr (.inr ⟨f, hf, hy⟩)), fun y hy => .inl hy⟩
          rw [rfs_set, hx']
          exact hA.set (by have := rfs_at hi; rwa [hn] at this)
        have FIN := Lib.hid hfin
        clear hfin hA hi hn hm
        go_wp2_with fail
        go_meet
        exact FIN.out
      · obtain ⟨p, hp1, hp2, hp3⟩ := add_place n fl
        have had := radd (x := ⟨n, ⟨[], 0⟩, none, 0⟩) HM2.out.1 (by omega) (OwnG.nil _) hp1 hp2 hp3
        have HAD := Lib.hid had
        have HP := Lib.hid (And.intro hp1 (And.intro hp2 (And.intro hp3 (And.intro hA hm))))
        clear had hp1 hp2 hp3 hA hm
        go_wp2_with fail
        refine HAD.out.mono ?_
        rintro e w3 ⟨rfl, fa3, c3, hM3, hk3, hn3⟩
        have HM3 := Lib.hid (And.intro hM3 (And.intro hk3 hn3))
        clear hM3 hk3 hn3 HAD
        go_wp2_with fail
        go_meet
        obtain ⟨hM3, hk3, hn3⟩ := HM3.out
        obtain ⟨hp1, hp2, hp3, hA, hm⟩ := HP.out
        refine ⟨p, _, fa3, c3, ⟨n, ⟨[], 0⟩, none, 0⟩, rfl, hM3, get_add p hp1, rfl, (DSt.got_none hm).symm, fun x' hx' => ?_, by simp; omega, (HM2.out.2.mono (fun x hx => by simp at hx; subst hx; exact .head _)).step hk3 (fun x hx => .inl hx), fun f hf y hy => ?_, fun y hy => (hn3 y hy).imp id (fun h => by have := HM2.out.2.size; omega)⟩
        · rw [set_add p hp1]
          subst hx'
          exact alike_add hA hm hp2 hp3
        · rcases List.mem_append.1 hf with hf | hf
          · exact mem_rfeet.2 (.inr (.inr ⟨f, List.mem_of_mem_take hf, hy⟩))
          · rcases List.mem_cons.1 hf with rfl | hf
            · simp at hy
            · exact mem_rfeet.2 (.inr (.inr ⟨f, List.mem_of_mem_drop hf, hy⟩))
    case rest =>
    generalize wc = w3 at *
    obtain ⟨i, fl2, fa2, c2, x, rfl, hM3, hi, hn, hxf, hal, hl2, hk3, hsub, hfa2⟩ := hcut
    obtain ⟨iB, zB, hiB, hzB, hszB, hbyB, hzcB⟩ := infoB
    obtain ⟨g, rfl⟩ := hM3.fa_eq hi
    obtain ⟨d1, d2, dg⟩ := hM3.c12 hi
    have hlt := (List.getElem?_eq_some_iff.1 hi).1
    obtain ⟨N, hN⟩ : ∃ N, N = fl2.length := ⟨_, rfl⟩
    have hb3 := hM3.blk
    rw [← hN] at hb3 hlt
    have hxl : x.f.b.length = hs := by rw [hxf, HD.out.2.2.1]
    have hsum : x.f.b.length + b.length ≤ 1048576 := by
      have h1 := HN.out
      rw [hxl, HD.out.2.2.1]
      omega
    have hR3 := HM.out.2.1.keep hk3 (fun ad e h hx => by
      refine HM.out.2.2.1 ad e (fun h0 => h (by rw [h0]; rfl)) ?_
      rcases List.mem_cons.1 hx with h1 | h1
      · rw [h1]; exact .head _
      · exact mem_rfeet.2 (.inr (.inl h1)))
    have hO3 := hM3.file x (List.mem_of_getElem? hi)
    have n2 : (i : Int) < (N : Int) := by omega
    have n3 : (0 : Int) ≤ (i : Int) := by omega
    have HR3 := Lib.hid (And.intro hR3 hO3)
    have H3 := Lib.hid (And.intro hM3 (And.intro hi (And.intro hn (And.intro hxf (And.intro hal (And.intro hk3 (And.intro hsub hfa2)))))))
    clear hR3 hO3 hM3 hi hn hxf hal hk3 hsub hfa2 hxl hN d2 dg
    go_upto_region 15 with (fail)
    have hR0 : (∀ W : World, Keeps [] w3 W → ∀ q ∈ [((3 : Nat), fun w0 : World => w0.cell? ⟨rb, 0, none⟩ = some (.slice (some ⟨g, 0, none⟩) N c2)), ((8 : Nat), fun w0 : World => w0.cell? ⟨rb, 0, none⟩ = some (.slice (some ⟨g, 0, none⟩) N c2)), ((12 : Nat), fun w0 : World => w0.cell? ⟨g, i * 3 + 1, none⟩ = some (.slice x.ao x.f.b.length x.c))], q.2 W) := fun W hW => rds3R (hW.cellSome (hb3.cell 0) (by simp)) (hW.cellSome (hb3.cell 0) (by simp)) (hW.cellSome d1 (by simp))
    have hkd := (Keeps.refl [] w3).drew
    have hSw := hR0 _ hkd
    have HRR := Lib.hid hR0
    clear hR0 d1
    refine startU [((3 : Nat), fun w0 : World => w0.cell? ⟨rb, 0, none⟩ = some (.slice (some ⟨g, 0, none⟩) N c2)), ((8 : Nat), fun w0 : World => w0.cell? ⟨rb, 0, none⟩ = some (.slice (some ⟨g, 0, none⟩) N c2)), ((12 : Nat), fun w0 : World => w0.cell? ⟨g, i * 3 + 1, none⟩ = some (.slice x.ao x.f.b.length x.c))] (by kernel_rfl) ?_
    generalize w3.drew = w4 at *
    refine takeU (i := 0) (v := ?_) rfl (by kernel_rfl) (fun _ _ _ h => h) (Or.inl ⟨by rfl, fun w0 hw0 => ?_⟩) (fun p hp _ => hSw p hp) ?_
    rotate_left
    · simp [Reads] at hw0
      go_simp
      try with_reducible rfl
    try go_simp
    refine takeU (i := 1) (v := ?_) rfl (by kernel_rfl) (fun _ _ _ h => h) (Or.inl ⟨by rfl, fun w0 hw0 => ?_⟩) (fun p hp _ => hSw p hp) ?_
    rotate_left
    · simp [Reads] at hw0
      go_simp
      try with_reducible rfl
    try go_simp
    refine takeU (i := 2) (v := ?_) rfl (by kernel_rfl) (fun _ _ _ h => h) (Or.inl ⟨by rfl, fun w0 hw0 => ?_⟩) (fun p hp _ => hSw p hp) ?_
    rotate_left
    · simp [Reads] at hw0
      go_simp
      try with_reducible rfl
    try go_simp
    refine takeU (i := 3) (v := ?_) rfl (by kernel_rfl) (fun _ _ _ h => h) (Or.inl ⟨by rfl, fun w0 hw0 => ?_⟩) (fun p hp _ => hSw p hp) ?_
    rotate_left
    · simp [Reads] at hw0
      go_simp
      try with_reducible rfl
    try go_simp
    refine takeU (i := 4) (v := ?_) rfl (by kernel_rfl) (fun _ _ _ h => h) (Or.inl ⟨by rfl, fun w0 hw0 => ?_⟩) (fun p hp _ => hSw p hp) ?_
    rotate_left
    · simp [Reads] at hw0
      go_simp
      try with_reducible rfl
    try go_simp
    refine takeU (i := 5) (v := ?_) rfl (by kernel_rfl) (fun _ _ _ h => h) (Or.inl ⟨by rfl, fun w0 hw0 => ?_⟩) (fun p hp _ => hSw p hp) ?_
    rotate_left
    · simp [Reads] at hw0
      go_simp
      try with_reducible rfl
    try go_simp
    refine takeU (i := 6) (v := ?_) rfl (by kernel_rfl) (fun _ _ _ h => h) (Or.inl ⟨by rfl, fun w0 hw0 => ?_⟩) (fun p hp _ => hSw p hp) ?_
    rotate_left
    · simp [Reads] at hw0
      go_simp
      try with_reducible rfl
    try go_simp
    refine takeU (i := 7) (v := ?_) rfl (by kernel_rfl) (fun _ _ _ h => h) (Or.inl ⟨by rfl, fun w0 hw0 => ?_⟩) (fun p hp _ => hSw p hp) ?_
    rotate_left
    · simp [Reads] at hw0
      go_simp
      try with_reducible rfl
    try go_simp
    refine takeU (i := 8) (v := ?_) rfl (by kernel_rfl) (fun _ _ _ h => h) (Or.inl ⟨by rfl, fun w0 hw0 => ?_⟩) (fun p hp _ => hSw p hp) ?_
    rotate_left
    · simp [Reads] at hw0
      go_simp
      try with_reducible rfl
    try go_simp
    refine takeU (i := 9) (v := ?_) rfl (by kernel_rfl) (fun _ _ _ h => h) (Or.inl ⟨by rfl, fun w0 hw0 => ?_⟩) (fun p hp _ => hSw p hp) ?_
    rotate_left
    · simp [Reads] at hw0
      go_simp
      try with_reducible rfl
    try go_simp
    refine takeU (i := 10) (v := ?_) rfl (by kernel_rfl) (fun _ _ _ h => h) (Or.inl ⟨by rfl, fun w0 hw0 => ?_⟩) (fun p hp _ => hSw p hp) ?_
    rotate_left
    · simp [Reads] at hw0
      go_simp
      try with_reducible rfl
    try go_simp
    refine takeU (i := 11) (v := ?_) rfl (by kernel_rfl) (fun _ _ _ h => h) (Or.inl ⟨by rfl, fun w0 hw0 => ?_⟩) (fun p hp _ => hSw p hp) ?_
    rotate_left
    · simp [Reads] at hw0
      go_simp
      try with_reducible rfl
    try go_simp
    refine takeU (i := 12) (v := ?_) rfl (by kernel_rfl) (fun _ _ _ h => h) (Or.inl ⟨by rfl, fun w0 hw0 => ?_⟩) (fun p hp _ => hSw p hp) ?_
    rotate_left
    · simp [Reads] at hw0
      go_simp
      try with_reducible rfl
    try go_simp
    refine takeU (i := 14) (v := ?_) rfl (by kernel_rfl) (fun _ _ _ h => h) (Or.inl ⟨by rfl, fun w0 hw0 => ?_⟩) (fun p hp _ => hSw p hp) ?_
    rotate_left
    · simp [Reads] at hw0
      go_simp
      try with_reducible rfl
    try go_simp
    clear hSw
    refine oneU (i := 13) rfl (by kernel_rfl) (fun K hK => ?_)
    refine step_append_by rfl _ _ 22 22 rfl (w4.heap.size) 5 iB zB 1 1 Tryd.underlying22 hiB hzB hszB hbyB hzcB none _ 0 _ rfl (World.ownsRow_nil _ _ _ _) _ rfl x.f.b.length _ (Sl.src (OwnG.rb (HR3.out.2.keep0 hkd)) Tryd.underlying22) (by unfold maxLen; omega) (by omega) (Nat.le_refl _) ?_
    intro a5 c5 w5 hO5 hk5 hb5
    have hO5b : w5.ownsRow w4.heap.size 5 1 (.slice a5 x.f.b.length c5) x.f.b.length (bys x.f.b) := by simpa using hO5
    have hk45 : Keeps [] w4 w5 := hk5.mono (fun x hx => by simp at hx)
    have hk35 := hkd.trans hk45
    refine hK _ _ (fun q hq _ _ => HRR.out _ hk35 q hq) ?_
    clear hK K
    try go_simp
    refine oneU (i := 15) rfl (by kernel_rfl) (fun K hK => ?_)
    refine step_append_by rfl _ _ 22 22 rfl (w4.heap.size) 5 iB zB 1 1 Tryd.underlying22 hiB hzB hszB hbyB hzcB a5 _ c5 _ rfl hO5b _ rfl b.length _ (Sl.src (Sl.keep0 HR3.out.1 hk35) Tryd.underlying22) (by unfold maxLen; omega) (by omega) hk45.size ?_
    intro a6 c6 w6 hO6 hk6 hb6
    have hn5 := own_lt hO5b
    have hk36 : Keeps [] w3 w6 := hk35.step hk6 (fun x hx => .inr (by have := (hn5 x hx).1; have := hkd.size; omega))
    refine hK _ _ (fun q hq _ _ => HRR.out _ hk36 q hq) ?_
    clear hK K
    try go_simp
    have hM6 := H3.out.1.keep0 hk36
    have d6 := (hM6.c12 H3.out.2.1).1
    have f6 := fun (o : Nat) => hM6.fzn o
    have HM6 := Lib.hid hM6
    have hSw := HRR.out _ hk36
    clear hM6
    refine takeU (i := 16) (v := ?_) rfl (by kernel_rfl) (fun _ _ _ h => h) (Or.inl ⟨by rfl, fun w0 hw0 => ?_⟩) (fun p hp _ => hSw p hp) ?_
    rotate_left
    · simp [Reads] at hw0
      go_simp
      try with_reducible rfl
    try go_simp
    refine takeU (i := 17) (v := ?_) rfl (by kernel_rfl) (fun _ _ _ h => h) (Or.inl ⟨by rfl, fun w0 hw0 => ?_⟩) (fun p hp _ => hSw p hp) ?_
    rotate_left
    · simp [Reads] at hw0
      go_simp
      try with_reducible rfl
    try go_simp
    clear hSw HRR
    refine oneU (i := 18) rfl (by kernel_rfl) (fun K hK => ?_)
    rw [if_pos (show Region.wanted _ _ = true from rfl)]
    go_wp2_with fail
    refine hK _ _ (fun p hp h1 _ => by simp only [List.mem_cons, List.not_mem_nil, or_false] at hp; rcases hp with rfl | rfl | rfl <;> exact waits_absurd h1 (by kernel_rfl)) ?_
    clear hK K
    try go_simp
    refine doneU (by kernel_rfl) ?_
    have h0w : w6.ownsRow w4.heap.size 5 1 (.slice a6 (x.f.b.length + b.length) c6) (x.f.b.length + b.length) (bys x.f.b ++ bys b) := hO6
    have hOw : Own w6 w4.heap.size a6 c6 (x.f.b ++ b) := Own.of h0w (by rw [bys_append])
    obtain ⟨hM7, hk7⟩ := HM6.out.put (i := i) H3.out.2.1 (j := 1) (by omega) (v := .slice a6 (x.f.b.length + b.length) c6) (x' := ⟨n, ⟨x.f.b ++ b, x.f.sure⟩, a6, c6⟩) (by simp only [RfM.cells, List.length_append, H3.out.2.2.1]; rfl) (OwnG.of hOw)
    generalize World.setCell w6 _ _ = w7 at *
    have FIN := Lib.hid (And.intro hM7 (And.intro hk7 hOw))
    clear d6 f6 hM7 hk7 hOw h0w hO6 hO5 hO5b n2 n3
    go_wp2_with fail
    go_ret
    rw [HS.out.1]
    obtain ⟨hM3, hi, hn, hxf, hal, hk3, hsub, hfa2⟩ := H3.out
    obtain ⟨hM7, hk7, hOw⟩ := FIN.out
    have hal' := hal ⟨n, ⟨x.f.b ++ b, x.f.sure⟩, a6, c6⟩ rfl
    simp only [] at hal'
    rw [hxf] at hal'
    have hg3 : g ∈ blks fa ∨ w.heap.size ≤ g := hfa2 g (.head _)
    refine ⟨rfl, _, ⟨_, _, _, hM7, by rw [hxf]; exact hal', rfl, HS.out.2⟩, ((hk3.mono (fun x hx => ?_)).trans hk36.of_nil).step hk7 (fun x hx => ?_), fun y hy => ?_⟩
    · rcases List.mem_cons.1 hx with rfl | hx
      · exact .head _
      · exact mem_rfeet.2 (.inr (.inl hx))
    · simp at hx
      subst hx
      exact hg3.imp (fun h => mem_rfeet.2 (.inr (.inl h))) id
    · rcases mem_rfeet.1 hy with rfl | hy2 | ⟨f, hf, hy2⟩
      · exact .inl (.head _)
      · exact (hfa2 y hy2).imp (fun h => mem_rfeet.2 (.inr (.inl h))) id
      · rcases List.mem_or_eq_of_mem_set hf with hf | rfl
        · exact .inl (hsub f hf y hy2)
        · refine .inr ?_
          have h1 := (hOw.lt y hy2).1
          have h2 := hk3.size
          have h3 := hkd.size
          omega
end
end Go.Proofs.YtcebbgmjbincbaaDoor
