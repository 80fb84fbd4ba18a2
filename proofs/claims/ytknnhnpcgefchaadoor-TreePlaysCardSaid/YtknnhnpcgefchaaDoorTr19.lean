/- The tree itself: New, Len. -/
import Derived.Test.YtknnhnpcgefchaaDoorTr16
import Derived.Test.YtknnhnpcgefchaaDoorTr18

namespace Go.Proofs.YtknnhnpcgefchaaDoor
open Go.RowKit Go.Lib

/-- a tree at t with these pairs; its nodes lie in F, it itself does not -/
structure TreeAt (w : World) (F : Nat → Prop) (t : Nat) (l : List KV) : Prop where
  at_ : ∃ d root, Blk w t 57 #[.pointer (some ⟨root, 0, none⟩), .int .i64 (l.length : Nat)] ∧ NdAt w F d (if d = 0 then 0 else 2) 16 root [] l
  out : ¬ F t
section
variable {w w' : World} {F F' : Nat → Prop} {t : Nat} {l : List KV} {L : List Nat}
theorem TreeAt.keep (h : TreeAt w F t l) (hk : Keeps L w w') (hL : ∀ x ∈ L, ¬ F x ∧ x ≠ t) : TreeAt w' F t l := by
  obtain ⟨⟨d, root, h1, h2⟩, h3⟩ := h
  exact ⟨⟨d, root, h1.keep hk (fun hm => (hL t hm).2 rfl), h2.keep hk fun x hx => (hL x hx).1⟩, h3⟩
theorem TreeAt.keep0 (h : TreeAt w F t l) (hk : Keeps [] w w') : TreeAt w' F t l := h.keep hk (by simp)
theorem TreeAt.mono (h : TreeAt w F t l) (hF : ∀ x, F x → x < w.heap.size → F' x) (ht : ¬ F' t) : TreeAt w F' t l := by
  obtain ⟨⟨d, root, h1, h2⟩, _⟩ := h
  exact ⟨⟨d, root, h1, h2.mono hF⟩, ht⟩
theorem TreeAt.lt (h : TreeAt w F t l) : t < w.heap.size := by obtain ⟨⟨d, root, h1, _⟩, _⟩ := h; exact h1.lt
theorem TreeAt.srt (h : TreeAt w F t l) : Srt l := by obtain ⟨⟨d, root, _, h2⟩, _⟩ := h; exact h2.ord.1
theorem tlen (h : TreeAt w F t l) : Calls Tryd.prog 15 #[.pointer (some ⟨t, 0, none⟩)] w fun e w' => e = .returned (.int .i64 (l.length : Nat)) ∧ w' = w := by
  obtain ⟨⟨d, root, hB, _⟩, _⟩ := h
  have hc := hB.cell
  have hl := hB.lt
  go_enter Tryd.func15, Tryd.ntmps15
  go_wp2_with fail
  go_ret
  exact ⟨rfl, rfl⟩
end
theorem tnew (w : World) : Calls Tryd.prog 6 #[] w fun e w' => ∃ t, e = .returned (.pointer (some ⟨t, 0, none⟩)) ∧ w.heap.size ≤ t ∧ TreeAt w' (fun x => w.heap.size ≤ x ∧ x ≠ t) t [] ∧ Keeps [] w w' := by
  go_enter Tryd.func6, Tryd.ntmps6
  go_wp2_with fail
  go_ret
  have hN := (Blk.fresh w 55 #[.slice none 0 0, .slice none 0 0, .slice none 0 0]).alloc (.cells #[.pointer (some ⟨w.heap.size, 0, none⟩), .int .i64 0] 57)
  have hT := Blk.fresh (w.alloc (.cells #[.slice none 0 0, .slice none 0 0, .slice none 0 0] 55)) 57 #[.pointer (some ⟨w.heap.size, 0, none⟩), .int .i64 0]
  refine ⟨w.heap.size + 1, by simp, by omega, ⟨⟨0, w.heap.size, by simpa using hT, ?_⟩, by simp⟩, ((Keeps.refl [] w).alloc _).alloc _⟩
  exact ⟨none, 0, none, 0, none, 0, [], hN, by simp, Sl.none _ _, Fr.no _ _, Sl.none _ _, Fr.no _ _, Sl.none _ _, by simp, rfl, Srt.nil, by simp, by simp, by simp, by simp⟩
end Go.Proofs.YtknnhnpcgefchaaDoor
