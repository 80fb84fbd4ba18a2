/- The disk's laws: what they know at first. -/
import Derived.Test.YtcebbgmjbincbaaDoorDkc
import Derived.Test.YtcebbgmjbincbaaDoorWx
import Derived.Lib.SlBytesConst

namespace Go.Proofs.YtcebbgmjbincbaaDoor
open Go.RowKit Go.Lib

theorem rb_blk {w : World} {g : Nat} {l : List UInt8} (h : Blk w g 5 (bys l).toArray) (hl : l.length ≤ maxLen) : Rb w (some ⟨g, 0, none⟩) l.length l := by
  have := Sl.of_blk (n := l.length) (sz := 1) h (by simp) hl (by simpa using bys_one l)
  simpa using this

theorem rb_mark (w : World) (l : List UInt8) (m : Nat × Nat) (hl : l.length ≤ maxLen) : Rb (w.alloc (.cells (bys l).toArray 5 m)) (some ⟨w.heap.size, 0, none⟩) l.length l := by
  refine ⟨by simp, Nat.le_refl _, hl, fun e => by simp at e, fun _ ad e => by cases e; rfl, ?_, bys_one l⟩
  intro ad e j u hj
  cases e
  have := cell_of_row (w.alloc (.cells (bys l).toArray 5 m)) w.heap.size (0 + j) (bys l).toArray 5 m (heap_alloc_new w _)
  rw [this, Nat.zero_add]
  simpa using hj

section
variable {w : World} {L : List Nat} {db : Nat} {d : DSt}
theorem dappend_new (h : Disk w L db d) (n b : List UInt8) (hn : n.length ≤ 1000000) (hbl : b.length ≤ 1000000) (hc : d.count < 4611686018427387904) (m : Nat × Nat) :
    Calls Tryd.prog 11 #[.pointer (some ⟨db, 0, none⟩), .string ⟨n.toArray⟩, .slice (some ⟨w.heap.size, 0, none⟩) b.length b.length] (w.alloc (.cells (bys b).toArray 5 m)) (DPost w L db (d.append n b)) := by
  have hkA := (Keeps.refl [] w).alloc (.cells (bys b).toArray 5 m)
  refine (dappend (h.keep0 hkA) n b hn (rb_mark w b m (by unfold maxLen; omega)) (by omega) (fun ad e _ hx => ?_) hc).mono ?_
  · cases e
    have := h.lt _ hx
    simp at this
  · rintro e w' ⟨ev, L', rfl, h1, h2, h3, h4⟩
    exact ⟨ev, L', rfl, h1, h2, hkA.of_nil.trans h3, fun x hx => (h4 x hx).imp id (fun h => Nat.le_trans hkA.size h)⟩
end

set_option maxRecDepth 100000 in
set_option maxHeartbeats 4000000 in
theorem dknown (w : World) (hg : (w).cell? ⟨0, 0, none⟩ = some (.iface 148 (.agg #[.pointer (some ⟨1, 28, none⟩)]))) : Calls Tryd.prog 9 #[] w fun e w' => e = .returned (.bool true) ∧ Keeps [] w w' := by
  go_enter Tryd.func9, Tryd.ntmps9
  go_wp2_with fail
  refine (dnew 10 (by omega) w).mono ?_
  rintro e w1 ⟨db, L, rfl, hD, hk1, hL⟩
  have q1 := Lib.run_convert_bytes_const (P := Tryd.prog) w1 22 5 #[.int .u8 120, .int .u8 121] 2 2 Tryd.underlying22 Tryd.underlying5
  go_wp2_with fail
  refine (dappend_new hD [97] [120, 121] (by decide) (by decide) (by decide) (2, 3)).mono ?_
  rintro e w2 ⟨ev, L2, rfl, hE, hD2, hk2, hL2⟩
  rw [show DSt.append ⟨[], (10 : Int).toNat, 0, -1, false⟩ [97] [120, 121] = (⟨[([97], ⟨[120, 121], 0⟩)], 10, 1, -1, false⟩, .ok) by rfl] at hE hD2
  obtain rfl : ev = .nilIface := hE
  clear q1
  go_wp2_with fail
  refine (dsync hD2 [97] (by decide)).mono ?_
  rintro e w3 ⟨ev, L3, rfl, hE, hD3, hk3, hL3⟩
  rw [show DSt.sync ⟨[([97], ⟨[120, 121], 0⟩)], 10, 1, -1, false⟩ [97] = (⟨[([97], ⟨[120, 121], 2⟩)], 10, 2, -1, false⟩, .ok) by rfl] at hE hD3
  obtain rfl : ev = .nilIface := hE
  have q1 := Lib.run_convert_bytes_const (P := Tryd.prog) w3 22 5 #[.int .u8 122] 1 1 Tryd.underlying22 Tryd.underlying5
  go_wp2_with fail
  refine (dappend_new hD3 [97] [122] (by decide) (by decide) (by decide) (1, 2)).mono ?_
  rintro e w4 ⟨ev, L4, rfl, hE, hD4, hk4, hL4⟩
  rw [show DSt.append ⟨[([97], ⟨[120, 121], 2⟩)], 10, 2, -1, false⟩ [97] [122] = (⟨[([97], ⟨[120, 121, 122], 2⟩)], 10, 3, -1, false⟩, .ok) by rfl] at hE hD4
  obtain rfl : ev = .nilIface := hE
  clear q1
  go_wp2_with fail
  refine (dcrash hD4 [] (Sl.none _ _) (by simp)).mono ?_
  rintro e w5 ⟨rfl, hD5, hk5⟩
  rw [show DSt.crash ⟨[([97], ⟨[120, 121, 122], 2⟩)], 10, 3, -1, false⟩ [] = ⟨[([97], ⟨[120, 121], 2⟩)], 10, 3, -1, false⟩ by rfl] at hD5
  go_wp2_with fail
  refine (dread hD5 [97]).mono ?_
  rintro e w6 ⟨bo, bc, ev, rfl, hE, hO6, hk6⟩
  rw [show DSt.read ⟨[([97], ⟨[120, 121], 2⟩)], 10, 3, -1, false⟩ [97] = ([120, 121], .ok) by rfl] at hE hO6 ⊢
  obtain rfl : ev = .nilIface := hE
  have hD6 := hD5.keep0 hk6
  go_wp2_with fail
  refine (dread hD6 [98]).mono ?_
  rintro e w7 ⟨bo2, bc2, ev2, rfl, hE, hO7, hk7⟩
  rw [show DSt.read ⟨[([97], ⟨[120, 121], 2⟩)], 10, 3, -1, false⟩ [98] = ([], .bad [98] 30) by rfl] at hE hO7 ⊢
  have hO67 := hO6.keep0 hk7
  have r1 : (convert 22 9 (.slice bo 2 bc)).run Tryd.prog w7 = .ok (.string ⟨#[120, 121]⟩) w7 := run_text hO67.rb 22 9 Tryd.underlying22 Tryd.underlying9
  have hkk : Keeps [] w w7 := by
    have a1 := hk1.step hk2 (fun x hx => .inr (hL x hx))
    have s1 := hk1.size
    have hL2' : ∀ x ∈ L2, w.heap.size ≤ x := fun x hx => (hL2 x hx).elim (hL x) (fun h => Nat.le_trans s1 h)
    have a2 := a1.step hk3 (fun x hx => .inr (hL2' x hx))
    have hL3' : ∀ x ∈ L3, w.heap.size ≤ x := fun x hx => (hL3 x hx).elim (hL2' x) (fun h => Nat.le_trans a1.size h)
    have a3 := a2.step hk4 (fun x hx => .inr (hL3' x hx))
    have hL4' : ∀ x ∈ L4, w.heap.size ≤ x := fun x hx => (hL4 x hx).elim (hL3' x) (fun h => Nat.le_trans a2.size h)
    exact ((a3.step hk5 (fun x hx => .inr (hL4' x hx))).trans hk6).trans hk7
  have hg7 := hkk.cellSome hg (by simp)
  have HC := Lib.hid (And.intro (class_de hg7 hE) hkk)
  clear hE hkk hg7 hk1 hk2 hk3 hk4 hk5 hk6 hk7 hL hL2 hL3 hL4 hO67 hO6 hO7
  go_wp2_with fail
  refine HC.out.1.mono ?_
  rintro e w8 ⟨rfl, hk8⟩
  go_wp2_with fail
  go_ret
  exact ⟨rfl, HC.out.2.trans hk8⟩
end Go.Proofs.YtcebbgmjbincbaaDoor
