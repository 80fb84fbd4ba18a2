/- A reader of bytes: row. Row. -/
import Derived.Test.YtllcidpmdmacjaaDoorWv2

namespace Go.Proofs.YtllcidpmdmacjaaDoor
open Go.RowKit Go.Lib

/-- values, as cells -/
def vals (l : List Va) : List Value := (l.map fun v => v.cells.toList).flatten
theorem vals_nil : vals [] = [] := rfl
theorem vals_cons (v : Va) (l : List Va) : vals (v :: l) = v.cells.toList ++ vals l := rfl
theorem vals_append (l m : List Va) : vals (l ++ m) = vals l ++ vals m := by simp [vals]
theorem vals_length (l : List Va) : (vals l).length = l.length * 3 := by
  induction l with
  | nil => rfl
  | cons v l ih => rw [vals_cons, List.length_append, ih]; simp; omega
theorem vals_one (l : List Va) : ∀ u ∈ vals l, u.oneCell' = true := by
  intro u hu
  simp only [vals, List.mem_flatten, List.mem_map] at hu
  obtain ⟨_, ⟨v, _, rfl⟩, hu⟩ := hu
  simp at hu
  rcases hu with rfl | rfl | rfl <;> rfl

theorem ownsRow_keep {w w' : World} {N sz n c : Nat} {e : TypeId} {ao : Option Addr} {xs : List Value} {L : List Nat} (h : w.ownsRow N e sz (.slice ao n c) n xs) (hk : Keeps L w w') (hL : ∀ x ∈ blks ao, x ∉ L) : w'.ownsRow N e sz (.slice ao n c) n xs := by
  refine ⟨h.1, ?_⟩
  rcases h.2 with h0 | ⟨g, cap, cur, he, hb, hg, rest⟩
  · exact .inl h0
  · simp only [Value.slice.injEq] at he
    obtain ⟨rfl, _, rfl⟩ := he
    exact .inr ⟨g, c, cur, rfl, hb, (hk.block g (Array.getElem?_eq_some_iff.1 hg).1 (hL g (by simp))).trans hg, rest⟩
theorem ownsRow_lt {w : World} {N sz n c : Nat} {e : TypeId} {ao : Option Addr} {xs : List Value} (h : w.ownsRow N e sz (.slice ao n c) n xs) : ∀ x ∈ blks ao, N ≤ x ∧ x < w.heap.size := by
  intro x hx
  cases ao with
  | none => simp at hx
  | some ad =>
    simp only [blks, List.mem_singleton] at hx
    subst hx
    exact World.ownsRow.lt h _ rfl
/-- what is owned is another block than one of another type -/
theorem ownsRow_ne {w : World} {N sz n c b : Nat} {e t : TypeId} {ao : Option Addr} {xs : List Value} {cs : Array Value} (h : w.ownsRow N e sz (.slice ao n c) n xs) (hB : Blk w b t cs) (ht : e ≠ t) : ∀ x ∈ blks ao, x ≠ b := by
  intro x hx
  rcases h.2 with ⟨h0, _⟩ | ⟨g, cap, cur, he, hb, hg, rest⟩
  · simp only [Value.slice.injEq] at h0
    obtain ⟨rfl, _, _⟩ := h0
    simp at hx
  · simp only [Value.slice.injEq] at he
    obtain ⟨rfl, _, rfl⟩ := he
    simp at hx
    subst hx
    rintro rfl
    unfold Blk at hB
    rw [hg] at hB
    simp only [Option.some.injEq, Obj.cells.injEq] at hB
    exact ht hB.2.1

theorem RdAt.keepL {N : Nat} {w w' : World} {r : Nat} {s : St} {L : List Nat} (h : RdAt N w r s) (hk : Keeps L w w') (h1 : r ∉ L) (h2 : ∀ x ∈ L, N ≤ x) (h3 : ∀ g cs, Blk w g 59 cs → g ∉ L) : RdAt N w' r s := by
  obtain ⟨ao, c, ev, hB, hS, hE, hn, hm⟩ := h
  refine ⟨ao, c, ev, hB.keep hk h1, hS.keep hk (fun ad e hne hx => by have := (hn ad e hne).2; have := h2 _ hx; omega), ?_, hn, hm⟩
  rcases hE with h | ⟨h0, g, p, e1, e2⟩
  · exact .inl h
  · exact .inr ⟨h0, g, p, e1, e2.keep hk (h3 g _ e2)⟩

/-- values that a function owns -/
def OwnV (w : World) (N : Nat) (ao : Option Addr) (c : Nat) (l : List Va) : Prop := w.ownsRow N 116 3 (.slice ao l.length c) l.length (vals l)
/-- values that may be read -/
abbrev Rv (w : World) (ao : Option Addr) (c : Nat) (l : List Va) : Prop := Sl w 3 ao l.length c (vals l)
theorem OwnV.nil (w : World) (N : Nat) : OwnV w N none 0 [] := World.ownsRow_nil w N 116 3
theorem OwnV.rv {w : World} {N : Nat} {ao : Option Addr} {c : Nat} {l : List Va} (h : OwnV w N ao c l) : Rv w ao c l := by
  obtain ⟨ao', c', he, hS, _⟩ := own_sl h (vals_one l)
  simp only [Value.slice.injEq, true_and] at he
  obtain ⟨rfl, rfl⟩ := he
  exact hS
theorem OwnV.of {w : World} {N : Nat} {ao : Option Addr} {n c : Nat} {xs : List Value} {l : List Va} (h : w.ownsRow N 116 3 (.slice ao n c) n xs) (hl : xs = vals l) : OwnV w N ao c l := by
  subst hl
  have e : n = l.length := by have := h.1; rw [vals_length] at this; omega
  subst e
  exact h
theorem rv1 {w : World} {b : Nat} {v : Va} (h : Blk w b 116 v.cells) : Rv w (some ⟨b, 0, none⟩) 1 [v] := by
  have := Sl.of_blk (n := 1) (sz := 3) h rfl (by decide) (by intro u hu; simp at hu; rcases hu with rfl | rfl | rfl <;> rfl)
  have e : vals [v] = v.cells.toList := by simp [vals]
  unfold Rv
  rw [e]
  exact this

theorem infoV : ∃ i z, Tryd.prog.info? 116 = some i ∧ i.zero = some z ∧ i.size = 3 ∧ i.bytes = 32 ∧ z.cells.size = 3 := by
  have h : (Tryd.prog.info? 116).map (fun i => (i.size, i.bytes, (i.zero.map fun z => z.cells.size))) = some (3, 32, some 3) := by kernel_rfl
  obtain ⟨i, hi, hx⟩ := Option.map_eq_some_iff.1 h
  simp only [Prod.mk.injEq] at hx
  obtain ⟨z, hz, hc⟩ := Option.map_eq_some_iff.1 hx.2.2
  exact ⟨i, z, hi, hz, hx.1, hx.2.1, hc⟩

def St.values : Nat → St → List Va × St
  | 0, s => ([], s)
  | n + 1, s => (s.value.1 :: (St.values n s.value.2).1, (St.values n s.value.2).2)
def St.row (s : St) : List Va × St := (s.small 64).2.values (s.small 64).1

theorem small_le (s : St) (m : Nat) : (s.small m).1 ≤ 255 ∧ (s.f = 0 → (s.small m).1 ≤ m) := by
  have hb : ∀ t : St, t.byte.1 ≤ 255 := by
    intro t
    unfold St.byte
    split
    · simp
    · rename_i b _ _
      have := b.toNat_lt
      split <;> simp only [] <;> omega
  refine ⟨?_, ?_⟩
  · unfold St.small
    split
    · exact hb _
    · split <;> exact hb _
  · intro hf
    unfold St.small
    cases hl : s.l with
    | nil => simp [St.byte, hl]
    | cons b l =>
      simp only []
      split
      · have h20 : (s.fail 20).f ≠ 0 := fail_f s (by decide)
        unfold St.byte
        rw [fail_l, hl]
        simp only []
        rw [if_neg h20]
        simp
      · unfold St.byte
        rw [hl]
        simp only []
        rw [if_pos hf]
        simp only []
        omega

set_option maxRecDepth 100000 in
set_option maxHeartbeats 4000000 in
theorem rd_row {N : Nat} (r : Nat) (s : St) (w : World) (h : RdAt N w r s) (hN : N ≤ w.heap.size) :
    Calls Tryd.prog 44 #[.pointer (some ⟨r, 0, none⟩)] w fun e w' => ∃ ao c, e = .returned (.slice ao s.row.1.length c) ∧ OwnV w' w.heap.size ao c s.row.1 ∧ RdAt N w' r s.row.2 ∧ Keeps [r] w w' := by
  obtain ⟨i, z, hi, hz, hsz, hby, hzc⟩ := infoV
  have hrl : r < w.heap.size := by obtain ⟨ao, c, ev, hB, _⟩ := h; exact hB.lt
  have hm255 := (small_le s 64).1
  generalize hrow : s.row = rw' at *
  unfold St.row at hrow
  have P := rd_small r s 64 w h
  generalize (s.small 64).1 = m at *
  generalize (s.small 64).2 = s1 at *
  go_enter Tryd.func44, Tryd.ntmps44
  go_wp2_with fail
  refine P.mono ?_
  rintro e w1 ⟨rfl, h1, hk1⟩
  clear P h
  go_wp2_with fail
  go_loopw [3, 6] (fun v j wr => ∃ (k : Nat) (ao : Option Addr) (c : Nat) (l : List Va) (t : St), v = .slice ao l.length c ∧ j = .int .i64 (k : Int) ∧ k ≤ m ∧ l.length = k ∧ (l ++ (t.values (m - k)).1, (t.values (m - k)).2) = rw' ∧ OwnV wr w.heap.size ao c l ∧ RdAt N wr r t ∧ Keeps [r] w wr) (fun _ j _ => m - (intOf j).toNat)
  case atStart => exact ⟨0, none, 0, [], s1, rfl, rfl, by omega, rfl, by simpa using hrow, OwnV.nil _ _, h1, hk1⟩
  case round =>
    obtain ⟨k, ao, c, l, t, rfl, rfl, hkm, hlk, hr, hO, ht, hk⟩ := hrel
    subst hlk
    clear h1 hk1 hrow
    by_cases hke : l.length = m
    · subst hke
      rw [Nat.sub_self] at hr
      change (l ++ [], t) = rw' at hr
      rw [List.append_nil] at hr
      go_wp2_with fail
      go_ret
      exact ⟨ao, c, by rw [← hr]; rfl, by rw [← hr]; exact hO, by rw [← hr]; exact ht, hk⟩
    · have hlt : (l.length : Int) < (m : Int) := by omega
      have s2 : IntKind.i64.wrap ((l.length : Int) + 1) = l.length + 1 := IntWalk.i64_in _ (by omega)
      rw [show m - l.length = (m - (l.length + 1)) + 1 by omega] at hr
      change (l ++ (t.value.1 :: (St.values (m - (l.length + 1)) t.value.2).1), (St.values (m - (l.length + 1)) t.value.2).2) = rw' at hr
      have P := rd_value r t wr ht (by have := hk.size; omega)
      generalize t.value.1 = v at *
      generalize t.value.2 = t2 at *
      go_wp2_with fail
      refine P.mono ?_
      rintro e w2 ⟨rfl, h2, hk2⟩
      have hO2 := ownsRow_keep hO hk2 (by intro x hx; have := (ownsRow_lt hO x hx).1; simp; omega)
      have hk02 := hk.trans hk2
      clear P hO ht hk hk2
      have hO3 := ownsRow_keep hO2 ((Keeps.refl [] w2).alloc (.cells v.cells 116)) (by simp)
      go_wp2_with (at_builtin; refine wpList_append_by _ rfl _ _ 82 82 rfl w.heap.size 116 i z 3 32 Tryd.underlying82 hi hz hsz hby hzc ao _ c _ rfl hO3 _ rfl 1 _ ((rv1 (v := v) (Blk.fresh _ _ _)).src Tryd.underlying82) (by unfold maxLen; omega) (by omega) (by have := hk02.size; simp; omega) ?_; intro ao' c' w' hO' hk' hb')
      have e1 : vals l ++ vals [v] = vals (l ++ [v]) := (vals_append l [v]).symm
      have hO4 := OwnV.of hO' e1
      have hk3 : Keeps (blks ao) w2 w' := ((Keeps.refl [] w2).alloc (.cells v.cells 116)).of_nil.trans hk'
      have hne : r ∉ blks ao := fun hx => by have := (ownsRow_lt hO3 r hx).1; omega
      go_roundw
      case rel => exact ⟨l.length + 1, ao', c', l ++ [v], t2, by simp, by simp, by omega, by simp, by rw [← hr]; simp, hO4, h2.keepL hk3 hne (fun x hx => by have := (ownsRow_lt hO3 x hx).1; omega) (fun g cs hg hx => ownsRow_ne hO2 hg (by decide) g hx rfl), hk02.step hk3 (fun x hx => .inr (ownsRow_lt hO3 x hx).1)⟩
      case measure => simp [intOf]; omega

/-- what Row tells -/
def rowP (l : List UInt8) : List Va × Nat × Nat :=
  let x := (⟨l, 0, 0⟩ : St).row
  if x.2.f = 0 then (x.1, x.2.n, 0) else ([], 0, x.2.f)

end Go.Proofs.YtllcidpmdmacjaaDoor
