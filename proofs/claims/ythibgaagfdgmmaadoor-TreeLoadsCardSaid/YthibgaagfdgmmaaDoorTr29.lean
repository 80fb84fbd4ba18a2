/- The law's helpers: number, known; Clone of a tree. -/
import Derived.Test.YthibgaagfdgmmaaDoorTr28
import Derived.Lib.SlBytesConst

namespace Go.Proofs.YthibgaagfdgmmaaDoor
open Go.RowKit Go.Lib

theorem cell_u8 (n : Nat) : (.int .u8 ((n : Int) % 256) : Value) = .int .u8 ((UInt8.ofNat n).toNat : Nat) := by
  rw [UInt8.toNat_ofNat']
  simp
theorem rb_one {w : World} {b : Nat} (n : Nat) (hn : n < 256) (h : Blk w b 5 #[.int .u8 (n : Int)]) : Rb w (some ⟨b, 0, none⟩) 1 [UInt8.ofNat n] := by
  refine rb1 (h.eq ?_)
  rw [UInt8.toNat_ofNat', Nat.mod_eq_of_lt (by omega)]
theorem rb_mod {w : World} {b : Nat} (n : Nat) (h : Blk w b 5 #[.int .u8 ((n : Int) % 256)]) : Rb w (some ⟨b, 0, none⟩) 1 [UInt8.ofNat n] :=
  rb1 (h.eq (by rw [cell_u8]))

theorem rb_mk (w : World) (l : List UInt8) (m : Nat × Nat) (g : Nat) (hg : g = w.heap.size) (hl : l.length ≤ maxLen) : Rb (w.alloc (.cells (bys l).toArray 5 m)) (some ⟨g, 0, none⟩) l.length l := by
  subst hg
  refine ⟨by simp, Nat.le_refl _, hl, fun e => by simp at e, fun _ ad e => by cases e; rfl, ?_, bys_one l⟩
  intro ad e j u hj
  cases e
  have := cell_of_row (w.alloc (.cells (bys l).toArray 5 m)) w.heap.size (0 + j) (bys l).toArray 5 m (heap_alloc_new w _)
  rw [this, Nat.zero_add]
  simpa using hj
theorem conv_at (w : World) (C : Array Value) (n c g : Nat) (hg : g = w.heap.size) :
    (convert 22 22 (.slice (some ⟨g, 0, none⟩) n c)).run Tryd.prog (w.alloc (.cells C 5)) = .ok (.slice (some ⟨g, 0, none⟩) n c) (w.alloc (.cells C 5 (C.size, C.size + 1))) := by
  subst hg
  exact Lib.run_convert_bytes_const w 22 5 C n c Tryd.underlying22 Tryd.underlying5

theorem known_any (w : World) : Calls Tryd.prog 5 #[] w fun e w' => e = .returned (.bool true) ∧ Keeps [] w w' := by
  go_enter Tryd.func5, Tryd.ntmps5
  go_wp2_with fail
  refine (tnew w).mono ?_
  rintro e w1 ⟨t, rfl, hst, hT, hk1⟩
  have d1 := conv_at w1 #[.int .u8 98] 1 1 w1.heap.size rfl
  have d2 := conv_at (w1.alloc (.cells #[.int .u8 98] 5 (1, 2))) #[.int .u8 49] 1 1 (w1.heap.size + 1) (by simp)
  go_wp2_with fail
  clear d1 d2
  have k1 := ((Keeps.refl [] w1).alloc (.cells #[.int .u8 98] 5 (1, 2))).alloc (.cells #[.int .u8 49] 5 (1, 2))
  refine (tput (k := [98]) (v := [49]) (hT.keep0 k1) ((rb_mk w1 [98] (1, 2) _ rfl (by decide)).keep0 ((Keeps.refl [] _).alloc (.cells #[.int .u8 49] 5 (1, 2)))) (rb_mk (w1.alloc (.cells #[.int .u8 98] 5 (1, 2))) [49] (1, 2) (w1.heap.size + 1) (by simp) (by decide)) (by simp) (by simp) (by simp)).mono ?_
  rintro e w2 ⟨he, hT2, hk2⟩
  have b1 : (!has [98] ([] : List KV)) = true := rfl
  rw [b1] at he
  subst he
  have hk02 := (hk1.trans k1).step hk2 (fun x hx => .inr (by simp at hx; omega))
  clear hk2 k1 hT
  have d1 := conv_at w2 #[.int .u8 97] 1 1 w2.heap.size rfl
  go_wp2_with fail
  clear d1
  have k2 := (Keeps.refl [] w2).alloc (.cells #[.int .u8 97] 5 (1, 2))
  refine (tput (k := [97]) (v := []) (hT2.keep0 k2) (rb_mk w2 [97] (1, 2) _ rfl (by decide)) (Sl.none _ _) (by simp) (by simp) (by decide)).mono ?_
  rintro e w3 ⟨he, hT3, hk3⟩
  have b2 : (!has [97] (ins [98] [49] ([] : List KV))) = true := rfl
  rw [b2] at he
  subst he
  have hk03 := (hk02.trans k2).step hk3 (fun x hx => .inr (by simp at hx; omega))
  clear hk3 k2 hT2
  have d1 := conv_at w3 #[.int .u8 97] 1 1 w3.heap.size rfl
  have d2 := conv_at (w3.alloc (.cells #[.int .u8 97] 5 (1, 2))) #[.int .u8 50] 1 1 (w3.heap.size + 1) (by simp)
  go_wp2_with fail
  clear d1 d2
  have k3 := ((Keeps.refl [] w3).alloc (.cells #[.int .u8 97] 5 (1, 2))).alloc (.cells #[.int .u8 50] 5 (1, 2))
  refine (tput (k := [97]) (v := [50]) (hT3.keep0 k3) ((rb_mk w3 [97] (1, 2) _ rfl (by decide)).keep0 ((Keeps.refl [] _).alloc (.cells #[.int .u8 50] 5 (1, 2)))) (rb_mk (w3.alloc (.cells #[.int .u8 97] 5 (1, 2))) [50] (1, 2) (w3.heap.size + 1) (by simp) (by decide)) (by simp) (by simp) (by decide)).mono ?_
  rintro e w4 ⟨he, hT4, hk4⟩
  have b3 : (!has [97] (ins [97] [] (ins [98] [49] ([] : List KV)))) = false := rfl
  rw [b3] at he
  subst he
  have hk04 := (hk03.trans k3).step hk4 (fun x hx => .inr (by simp at hx; omega))
  clear hk4 k3 hT3
  go_wp2_with fail
  refine (tseek (t := t) (k := []) (Sl.none w4 1) (by simp)).mono ?_
  rintro e w5 ⟨cb, rfl, hcb, hC, hk5⟩
  have htl := hT4.lt
  have hT5 := (hT4.mono (F' := fun x => x ≠ t ∧ x < w4.heap.size) (fun x hx hlt => ⟨fun h => by subst h; exact hT4.out hx, hlt⟩) (fun h => h.1 rfl)).keep0 hk5
  go_wp2_with fail
  refine (cnext hT5 hC (fun h => by have := h.2; omega)).mono ?_
  rintro e w6 hA
  have b4 : nxt [] false (ins [97] [50] (ins [97] [] (ins [98] [49] ([] : List KV)))) = some ([97], [50]) := rfl
  rcases hA with ⟨hno, _, _⟩ | ⟨k', v', hyes, a1, c1, a2, c2, rfl, hr1, _, hr2, _, hC6, hk6, _, _⟩
  · rw [b4] at hno
    cases hno
  · rw [b4] at hyes
    simp only [Option.some.injEq, Prod.mk.injEq] at hyes
    obtain ⟨rfl, rfl⟩ := hyes
    have hk06 := (hk04.trans hk5).step hk6 (fun x hx => .inr (by simp at hx; have := hk04.size; omega))
    have hT6 := hT5.keep hk6 (fun x hx => by simp at hx; subst hx; exact ⟨fun h => by have := h.2; omega, fun h => by omega⟩)
    have r1 : (convert 22 9 (.slice a1 1 c1)).run Tryd.prog w6 = .ok (.string ⟨#[97]⟩) w6 := run_text hr1 22 9 Tryd.underlying22 Tryd.underlying9
    have r2 : (convert 22 9 (.slice a2 1 c2)).run Tryd.prog w6 = .ok (.string ⟨#[50]⟩) w6 := run_text hr2 22 9 Tryd.underlying22 Tryd.underlying9
    have hL := tlen hT6
    go_wp2_with fail
    refine hL.mono ?_
    rintro e w7 ⟨rfl, hw⟩
    obtain rfl := hw.symm
    have e5 : (ins [97] [50] (ins [97] [] (ins [98] [49] ([] : List KV)))).length = 2 := rfl
    rw [e5]
    go_wp2_with fail
    go_ret
    exact ⟨rfl, hk06⟩
end Go.Proofs.YthibgaagfdgmmaaDoor
