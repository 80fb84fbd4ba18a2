/- A node of a group: what a leader knows of each node; the node, its peers, its log and what it sends, as one. -/
import Derived.Test.YtdeaelbelcjhcaaDoorRaft17


namespace Go.Proofs.YtdeaelbelcjhcaaDoor
open Go.RowKit

/-- what a leader knows of a node -/
structure Pe where
  nx : Int
  mt : Int
  ak : Int
  off : Int

def Pe.cells (p : Pe) : List Value := [.int .u64 p.nx, .int .u64 p.mt, .int .u64 p.ak, .int .i64 p.off]

def pcs : List Pe → List Value
  | [] => []
  | p :: l => p.cells ++ pcs l

theorem pcs_length (l : List Pe) : (pcs l).length = l.length * 4 := by
  induction l with
  | nil => rfl
  | cons e l ih => simp [pcs, Pe.cells, ih]; omega

theorem pcs_drop (l : List Pe) (k : Nat) : pcs (l.drop k) = (pcs l).drop (k * 4) := by
  induction l generalizing k with
  | nil => simp [pcs]
  | cons e l ih =>
    cases k with
    | zero => simp
    | succ k =>
      have h5 : (k + 1) * 4 = 4 + k * 4 := by omega
      simp only [List.drop_succ_cons, ih, pcs, h5]
      rw [← List.drop_drop]
      rfl

theorem pcs_part {l : List Pe} {j : Nat} {p : Pe} (h : l[j]? = some p) : ((pcs l).drop (j * 4)).take 4 = p.cells := by
  rw [← pcs_drop]
  obtain ⟨hj, rfl⟩ := List.getElem?_eq_some_iff.1 h
  rw [List.drop_eq_getElem_cons hj]
  simp [pcs, Pe.cells]

theorem pcs_at {l : List Pe} {j : Nat} {p : Pe} (h : l[j]? = some p) (r : Nat) (hr : r < 4) : (pcs l)[j * 4 + r]? = p.cells[r]? := by
  rw [← pcs_part h, List.getElem?_take_of_lt hr, List.getElem?_drop]

theorem pcs_set {l : List Pe} {j : Nat} {p q : Pe} (h : l[j]? = some p) (r : Nat) (v : Value) (hr : r < 4) (hq : p.cells.set r v = q.cells) : (pcs l).set (j * 4 + r) v = pcs (l.set j q) := by
  induction l generalizing j with
  | nil => simp at h
  | cons e l ih =>
    cases j with
    | zero =>
      simp only [List.getElem?_cons_zero, Option.some.injEq] at h
      subst h
      simp only [List.set_cons_zero, pcs, Nat.zero_mul, Nat.zero_add, ← hq]
      rw [List.set_append_left _ _ (by simpa [Pe.cells] using hr)]
    | succ j =>
      simp only [List.getElem?_cons_succ] at h
      simp only [List.set_cons_succ, pcs, ← ih h]
      rw [List.set_append_right _ _ (by simp [Pe.cells]; omega)]
      congr 2
      simp [Pe.cells]; omega

theorem pcs_one (l : List Pe) : ∀ u ∈ pcs l, u.oneCell' = true := by
  induction l with
  | nil => intro u hu; simp [pcs] at hu
  | cons e l ih =>
    intro u hu
    rcases List.mem_append.1 hu with hu | hu
    · simp [Pe.cells] at hu
      rcases hu with rfl | rfl | rfl | rfl <;> rfl
    · exact ih u hu

theorem pcs_nostr (l : List Pe) : ∀ v ∈ (pcs l).toArray.toList, ∀ s, v ≠ Value.string s := by
  have hh : ∀ v ∈ pcs l, ∀ s, v ≠ Value.string s := by
    induction l with
    | nil => intro u hu; simp [pcs] at hu
    | cons e l ih =>
      intro u hu s
      rcases List.mem_append.1 hu with hu | hu
      · simp [Pe.cells] at hu
        rcases hu with rfl | rfl | rfl | rfl <;> simp
      · exact ih u hu s
  simpa using hh

theorem own_keep {w w' : World} {N sz n c : Nat} {e : TypeId} {ao : Option Addr} {xs : List Value} {L : List Nat} (h : w.ownsRow N e sz (.slice ao n c) n xs) (hk : Keeps L w w') (hL : ∀ x ∈ blks ao, x ∉ L) : w'.ownsRow N e sz (.slice ao n c) n xs := by
  refine ⟨h.1, ?_⟩
  rcases h.2 with h0 | ⟨g, cap, cur, he, hb, hg, rest⟩
  · exact .inl h0
  · simp only [Value.slice.injEq] at he
    obtain ⟨rfl, _, rfl⟩ := he
    exact .inr ⟨g, c, cur, rfl, hb, (hk.block g (Array.getElem?_eq_some_iff.1 hg).1 (hL g (by simp))).trans hg, rest⟩
theorem own_lt {w : World} {N sz n c : Nat} {e : TypeId} {ao : Option Addr} {xs : List Value} (h : w.ownsRow N e sz (.slice ao n c) n xs) : ∀ x ∈ blks ao, N ≤ x ∧ x < w.heap.size := by
  intro x hx
  cases ao with
  | none => simp at hx
  | some ad =>
    simp only [blks, List.mem_singleton] at hx
    subst hx
    exact World.ownsRow.lt h _ rfl
/-- what is owned is another block than one of another type -/
theorem own_ne {w : World} {N sz n c b : Nat} {e t : TypeId} {ao : Option Addr} {xs : List Value} {cs : Array Value} (h : w.ownsRow N e sz (.slice ao n c) n xs) (hB : Blk w b t cs) (ht : e ≠ t) : ∀ x ∈ blks ao, x ≠ b := by
  intro x hx
  rcases h.2 with ⟨h0, _⟩ | ⟨g, cap, cur, he, hb, hg, rest⟩
  · simp only [Value.slice.injEq] at h0
    obtain ⟨rfl, _, _⟩ := h0
    simp at hx
  · simp only [Value.slice.injEq] at he
    obtain ⟨rfl, _, rfl⟩ := he
    simp at hx
    subst hx
    rintro rfl
    unfold Blk at hB
    rw [hg] at hB
    simp only [Option.some.injEq, Obj.cells.injEq] at hB
    exact ht hB.2.1
/-- two that are owned, of two types -/
theorem own_ne2 {w : World} {N sz n c N' sz' n' c' : Nat} {e e' : TypeId} {ao ao' : Option Addr} {xs xs' : List Value} (h : w.ownsRow N e sz (.slice ao n c) n xs) (h' : w.ownsRow N' e' sz' (.slice ao' n' c') n' xs') (ht : e ≠ e') : ∀ x ∈ blks ao, x ∉ blks ao' := by
  intro x hx hx'
  rcases h'.2 with ⟨h0, _⟩ | ⟨g, cap, cur, he, hb, hg, rest⟩
  · simp only [Value.slice.injEq] at h0
    obtain ⟨rfl, _, _⟩ := h0
    simp at hx'
  · simp only [Value.slice.injEq] at he
    obtain ⟨rfl, _, rfl⟩ := he
    exact own_ne h hg ht x hx (by simpa using hx')

/-- a log whose blocks are elder than N and none of X -/
def LogIn (w : World) (N : Nat) (X : List Nat) (lg : Nat) (g : Lg) : Prop :=
  ∃ ao c, Blk w lg 71 #[.int .u64 g.base, .int .u64 g.tm, .slice ao g.es.length c] ∧ Sl w 5 ao g.es.length c (ens g.es) ∧ lg < N ∧ lg ∉ X ∧ ∀ ad, ao = some ad → g.es ≠ [] → ad.block ≠ lg ∧ ad.block < N ∧ ad.block ∉ X

theorem LogIn.at {w : World} {N lg : Nat} {X : List Nat} {g : Lg} (h : LogIn w N X lg g) : LogAt w lg g := by
  obtain ⟨ao, c, hB, hS, _, _, h3⟩ := h
  exact ⟨ao, c, hB, hS, fun ad e hx => (h3 ad e hx).1⟩
theorem LogIn.ltN {w : World} {N lg : Nat} {X : List Nat} {g : Lg} (h : LogIn w N X lg g) : lg < N := by
  obtain ⟨ao, c, hB, hS, h1, h2, h3⟩ := h
  exact h1
theorem LogIn.notX {w : World} {N lg : Nat} {X : List Nat} {g : Lg} (h : LogIn w N X lg g) : lg ∉ X := by
  obtain ⟨ao, c, hB, hS, h1, h2, h3⟩ := h
  exact h2
theorem LogIn.keep {w w' : World} {N lg : Nat} {X L : List Nat} {g : Lg} (h : LogIn w N X lg g) (hk : Keeps L w w') (hL : ∀ x ∈ L, x ∈ X ∨ N ≤ x) : LogIn w' N X lg g := by
  obtain ⟨ao, c, hB, hS, h1, h2, h3⟩ := h
  refine ⟨ao, c, hB.keep hk (fun hm => ?_), hS.keep hk (fun ad e hx hm => ?_), h1, h2, h3⟩
  · rcases hL _ hm with h | h
    · exact h2 h
    · omega
  · have hne : g.es ≠ [] := by rintro e0; rw [e0] at hx; exact hx rfl
    have := h3 ad e hne
    rcases hL _ hm with h | h
    · exact this.2.2 h
    · omega
theorem LogIn.grow {w : World} {N N' lg : Nat} {X : List Nat} {g : Lg} (h : LogIn w N X lg g) (hN : N ≤ N') : LogIn w N' X lg g := by
  obtain ⟨ao, c, hB, hS, h1, h2, h3⟩ := h
  exact ⟨ao, c, hB, hS, by omega, h2, fun ad e hx => by have := h3 ad e hx; exact ⟨this.1, by omega, this.2.2⟩⟩
/-- a log beside two blocks without texts -/
theorem LogIn.of {w : World} {lg b pb : Nat} {g : Lg} {t t' : TypeId} {cs cs' : Array Value} (h : LogAt w lg g) (hB : Blk w b t cs) (hs : ∀ v ∈ cs.toList, ∀ s, v ≠ Value.string s) (hP : Blk w pb t' cs') (hs' : ∀ v ∈ cs'.toList, ∀ s, v ≠ Value.string s)
    (ht : t ≠ 71) (ht' : t' ≠ 71) : LogIn w w.heap.size [b, pb] lg g := by
  have hlt := h.lt
  obtain ⟨ao, c, hL, hS, hap⟩ := h
  refine ⟨ao, c, hL, hS, hlt, ?_, ?_⟩
  · simp only [List.mem_cons, List.not_mem_nil, or_false, not_or]
    exact ⟨fun e => hB.ne hL ht e.symm, fun e => hP.ne hL ht' e.symm⟩
  · intro ad ha hx
    refine ⟨hap ad ha hx, hS.lt ha (ens_ne hx), ?_⟩
    cases hes : g.es with
    | nil => exact absurd hes hx
    | cons en l =>
      rw [hes] at hS
      have h4 := hS.cell ad ha 4 (.string en.sql) rfl
      simp only [List.mem_cons, List.not_mem_nil, or_false, not_or]
      refine ⟨fun e => ?_, fun e => ?_⟩
      · rw [e, hB.cell] at h4
        exact hs _ (List.mem_of_getElem? (l := cs.toList) (i := ad.off + 4) (by rw [Array.getElem?_toList]; exact h4)) _ rfl
      · rw [e, hP.cell] at h4
        exact hs' _ (List.mem_of_getElem? (l := cs'.toList) (i := ad.off + 4) (by rw [Array.getElem?_toList]; exact h4)) _ rfl

/-- a node that has peers, its peers, its log: all elder than N -/
structure RC (w : World) (N b pb : Nat) (r : Rf) (g : Lg) (ps : List Pe) : Prop where
  B : Blk w b 63 r.cells
  P : Blk w pb 78 (pcs ps).toArray
  L : LogIn w N [b, pb] r.lg g
  bN : b < N
  pN : pb < N
  size : N ≤ w.heap.size
  hps : r.ps = (some ⟨pb, 0, none⟩, ps.length, ps.length)
/-- the messages that a node is about to send -/
abbrev Ow (w : World) (N : Nat) (s : Sl3) (xs : List Value) : Prop := w.ownsRow N 49 23 (.slice s.1 s.2.1 s.2.2) s.2.1 xs

section
variable {w w' : World} {N b pb : Nat} {r r' : Rf} {g g' : Lg} {ps ps' : List Pe} {xs : List Value} {L : List Nat}
theorem RC.ne (h : RC w N b pb r g ps) : b ≠ pb := h.B.ne h.P (by decide)
theorem RC.keep (h : RC w N b pb r g ps) (hk : Keeps L w w') (hL : ∀ x ∈ L, N ≤ x) : RC w' N b pb r g ps :=
  ⟨h.B.keep hk (fun hm => by have := hL _ hm; have := h.bN; omega), h.P.keep hk (fun hm => by have := hL _ hm; have := h.pN; omega), h.L.keep hk (fun x hx => .inr (hL x hx)), h.bN, h.pN, Nat.le_trans h.size hk.size, h.hps⟩
theorem RC.keep0 (h : RC w N b pb r g ps) (hk : Keeps [] w w') : RC w' N b pb r g ps := h.keep hk (fun _ hx => by cases hx)
theorem RC.turnB (h : RC w N b pb r g ps) (hk : Keeps L w w') (hL : ∀ x ∈ L, x = b ∨ N ≤ x) (hB : Blk w' b 63 r'.cells) (e1 : r'.lg = r.lg) (e2 : r'.ps = r.ps) : RC w' N b pb r' g ps :=
  ⟨hB, h.P.keep hk (fun hm => by rcases hL _ hm with e | e; exact h.ne e.symm; have := h.pN; omega), by rw [e1]; exact h.L.keep hk (fun x hx => by rcases hL x hx with e | e; exact .inl (by simp [e]); exact .inr e), h.bN, h.pN, Nat.le_trans h.size hk.size, e2.trans h.hps⟩
theorem RC.turnP (h : RC w N b pb r g ps) (hk : Keeps L w w') (hL : ∀ x ∈ L, x = pb ∨ N ≤ x) (hP : Blk w' pb 78 (pcs ps').toArray) (e : ps'.length = ps.length) : RC w' N b pb r g ps' :=
  ⟨h.B.keep hk (fun hm => by rcases hL _ hm with e | e; exact h.ne e; have := h.bN; omega), hP, h.L.keep hk (fun x hx => by rcases hL x hx with e | e; exact .inl (by simp [e]); exact .inr e), h.bN, h.pN, Nat.le_trans h.size hk.size, by rw [e]; exact h.hps⟩
theorem RC.grow (h : RC w N b pb r g ps) {N' : Nat} (h1 : N ≤ N') (h2 : N' ≤ w.heap.size) : RC w N' b pb r g ps := ⟨h.B, h.P, h.L.grow h1, by have := h.bN; omega, by have := h.pN; omega, h2, h.hps⟩
theorem RC.of (hB : Blk w b 63 r.cells) (hP : Blk w pb 78 (pcs ps).toArray) (hL : LogAt w r.lg g) (hps : r.ps = (some ⟨pb, 0, none⟩, ps.length, ps.length)) : RC w w.heap.size b pb r g ps :=
  ⟨hB, hP, LogIn.of hL hB r.nostr hP (pcs_nostr ps) (by decide) (by decide), hB.lt, hP.lt, Nat.le_refl _, hps⟩

theorem Ow.nil (w : World) (N : Nat) : Ow w N (none, 0, 0) [] := World.ownsRow_nil w N _ _
end
end Go.Proofs.YtdeaelbelcjhcaaDoor
