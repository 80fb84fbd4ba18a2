/- The wal: a frame is played. -/
import Derived.Test.YtfgmbjdeimallaaGreatDoorWaZ
import Derived.Test.YtfgmbjdeimallaaGreatDoorLit

namespace Go.Proofs.YtfgmbjdeimallaaGreatDoor
open Go.RowKit Go.Lib

/-- what plays leaves -/
def PlPost (w : World) (wb db : Nat) (s : Ws) (size : Int) (E : List Nat) (ev : Ev) (e : Ending) (w' : World) : Prop :=
  e = .returned .nilIface ∧ ∃ E', WalAt w' wb db (s.ev ev) size E' ∧ (∀ x ∈ E', x ∈ E ∨ w.heap.size ≤ x) ∧ Keeps (wb :: E) w w'
/-- bytes with a first one: where they lie -/
theorem Rb.first {w : World} {bo : Option Addr} {bc : Nat} {k : UInt8} {l : List UInt8} (h : Rb w bo bc (k :: l)) (hl : l ≠ []) : ∃ g o, bo = some ⟨g, o, none⟩ ∧ g < w.heap.size ∧ w.cell? ⟨g, o, none⟩ = some (.int .u8 (k.toNat : Nat)) ∧ Rb w (some ⟨g, o + 1, none⟩) (bc - 1) l ∧ 2 ≤ bc ∧ l.length + 1 ≤ bc := by
  have hcp := h.cap
  have hp : 0 < l.length := List.length_pos_iff.2 hl
  simp only [List.length_cons] at hcp
  obtain ⟨g, o, rfl⟩ := h.at (by omega)
  have h0 := h.cell _ rfl 0 (.int .u8 (k.toNat : Nat)) (by simp [bys])
  refine ⟨g, o, rfl, h.lt rfl (by simp [bys]), by simpa using h0, ?_, by omega, by omega⟩
  have hP := Rb.part (z := 1) (n := l.length) h (by simp; omega)
  rw [if_neg (by omega)] at hP
  simpa [Addr.add_lit] using hP
theorem uvarint_ne (n : Nat) : uvarint n ≠ [] := by
  intro e
  have := uvarint_pos n
  rw [e] at this
  simp at this

section
variable {w : World} {wb db : Nat} {s : Ws} {size : Int} {E : List Nat}
set_option maxRecDepth 100000 in
set_option maxHeartbeats 4000000 in
theorem plays_cut (h : WalAt w wb db s size E) (hs : s.Ok) (hl : s.es.length ≤ 1000000) (n : Nat) (hm : (Ev.cut n).May s) (bo : Option Addr) (bc : Nat) (hb : Rb w bo bc (Ev.cut n).bytes) (hbc : bc ≤ 9223372036854775807) :
    Calls Tryz.prog 35 #[.pointer (some ⟨wb, 0, none⟩), .slice bo (Ev.cut n).bytes.length bc] w (PlPost w wb db s size E (.cut n)) := by
  obtain ⟨g, o, rfl, hgl, hg0, hR, hc2, hc3⟩ := hb.first (uvarint_ne n)
  have hup := uvarint_pos n
  obtain ⟨hm1, hm2⟩ := hm
  have hn64 : n < 18446744073709551616 := by have := hs.base; unfold Ws.last at hm2; omega
  have hk1 := (Keeps.refl [] w).alloc (.cells #[.int .u64 0] 23)
  have hk2 := hk1.alloc (.cells #[.int .u64 0] 23)
  have hk3 := hk2.alloc (.cells #[.pointer (some ⟨w.heap.size, 0, none⟩)] 120)
  have hX : Blk (((w.alloc (.cells #[.int .u64 0] 23)).alloc (.cells #[.int .u64 0] 23)).alloc (.cells #[.pointer (some ⟨w.heap.size, 0, none⟩)] 120)) w.heap.size 23 #[.int .u64 0] := ((Blk.fresh w 23 #[.int .u64 0]).alloc _).alloc _
  have hP : Blk (((w.alloc (.cells #[.int .u64 0] 23)).alloc (.cells #[.int .u64 0] 23)).alloc (.cells #[.pointer (some ⟨w.heap.size, 0, none⟩)] 120)) (w.heap.size + 2) 120 #[.pointer (some ⟨w.heap.size, 0, none⟩)] := Blk.fresh_at _ _ _ (by simp)
  have hSP : Sl (((w.alloc (.cells #[.int .u64 0] 23)).alloc (.cells #[.int .u64 0] 23)).alloc (.cells #[.pointer (some ⟨w.heap.size, 0, none⟩)] 120)) 1 (some ⟨w.heap.size + 2, 0, none⟩) 1 1 [.pointer (some ⟨w.heap.size, 0, none⟩)] := Sl.of_blk (n := 1) hP rfl (by decide) (by intro u hu; simp at hu; subst hu; rfl)
  have hRd := readU_any [(w.heap.size, n)] (some ⟨w.heap.size + 2, 0, none⟩) 1 (some ⟨g, o + 1, none⟩) (bc - 1) _ (by simpa [numsB] using hR.keep0 hk3) hSP (by simpa using ⟨_, hX⟩) (by simp) (by simpa using hn64) (by simp) (by simp; omega) (by simp) (by omega)
  have hlen : (numsB [(w.heap.size, n)]).length = (uvarint n).length := by simp [numsB]
  rw [hlen] at hRd
  have HR := Lib.hid (And.intro hRd (And.intro hk3 h))
  have e1 : (Ev.cut n).bytes.length = (uvarint n).length + 1 := rfl
  rw [e1]
  obtain ⟨z, hz⟩ : ∃ z, z = (uvarint n).length := ⟨_, rfl⟩
  rw [← hz] at HR hc3 hup ⊢
  have m1 : ¬ ((((z + 1 : Nat)) : Int) = 0) := by omega
  have m2 : (1 : Int) ≤ ((z + 1 : Nat) : Int) := by omega
  have m3 : (((z + 1 : Nat)) : Int) ≤ (bc : Int) := by omega
  have m4 : (0 : Int) < ((z + 1 : Nat) : Int) := by omega
  have m5 : ¬ (bc = 1) := by omega
  have m6 : z + 1 - 1 = z := by omega
  clear hRd hX hP hSP hk1 hk2 hk3 e1 hlen hR hb h hz
  go_enter Tryz.func35, Tryz.ntmps35
  go_wp2_with fail
  refine HR.out.1.mono ?_
  rintro e w2 ⟨rfl, hD, hkr⟩
  obtain ⟨-, hk3, h⟩ := HR.out
  have hX2 := hD (w.heap.size, n) (by simp)
  have hk03 : Keeps [] w w2 := hk3.step hkr (fun x hx => .inr (by simp at hx; omega))
  have hC := wcuts (h.keep0 hk03) n hm1 hm2 hn64 (by omega)
  have HC := Lib.hid (And.intro hC hk03)
  have hcX := hX2.cell
  clear hD hX2 hk03 hC h hk3
  go_wp2_with fail
  refine HC.out.1.mono ?_
  rintro e w3 ⟨rfl, hW, hk4⟩
  go_wp2_with fail
  go_ret
  exact ⟨rfl, E, hW, fun x hx => .inl hx, HC.out.2.of_nil.trans (hk4.mono (by simp))⟩

set_option maxRecDepth 100000 in
set_option maxHeartbeats 4000000 in
theorem plays_drop (h : WalAt w wb db s size E) (hl : s.es.length ≤ 1000000) (i t : Nat) (hm : (Ev.drop i t).May s) (bo : Option Addr) (bc : Nat) (hb : Rb w bo bc (Ev.drop i t).bytes) (hbc : bc ≤ 9223372036854775807) :
    Calls Tryz.prog 35 #[.pointer (some ⟨wb, 0, none⟩), .slice bo (Ev.drop i t).bytes.length bc] w (PlPost w wb db s size E (Ev.drop i t)) := by
  obtain ⟨hm1, hm2, hm3⟩ := hm
  obtain ⟨b, hbd⟩ : ∃ b, b = t := ⟨_, rfl⟩
  have hby : (Ev.drop i t).bytes = 4 :: (uvarint i ++ uvarint b) := by rw [hbd]; rfl
  have h2l : b < 18446744073709551616 := by rw [hbd]; exact hm3
  rw [hby] at hb ⊢
  obtain ⟨g, o, rfl, hgl, hg0, hR, hc2, hc3⟩ := hb.first (by simp [uvarint_ne])
  have hup := uvarint_pos i
  have hk1 := (Keeps.refl [] w).alloc (.cells #[.int .u64 0] 23)
  have hk2 := hk1.alloc (.cells #[.int .u64 0] 23)
  have hk3 := hk2.alloc (.cells #[.pointer (some ⟨w.heap.size, 0, none⟩), .pointer (some ⟨w.heap.size + 1, 0, none⟩)] 120)
  have hX : Blk (((w.alloc (.cells #[.int .u64 0] 23)).alloc (.cells #[.int .u64 0] 23)).alloc (.cells #[.pointer (some ⟨w.heap.size, 0, none⟩), .pointer (some ⟨w.heap.size + 1, 0, none⟩)] 120)) w.heap.size 23 #[.int .u64 0] := ((Blk.fresh w 23 #[.int .u64 0]).alloc _).alloc _
  have hY : Blk (((w.alloc (.cells #[.int .u64 0] 23)).alloc (.cells #[.int .u64 0] 23)).alloc (.cells #[.pointer (some ⟨w.heap.size, 0, none⟩), .pointer (some ⟨w.heap.size + 1, 0, none⟩)] 120)) (w.heap.size + 1) 23 #[.int .u64 0] := (Blk.fresh_at (w.alloc (.cells #[.int .u64 0] 23)) 23 #[.int .u64 0] (by simp)).alloc _
  have hP : Blk (((w.alloc (.cells #[.int .u64 0] 23)).alloc (.cells #[.int .u64 0] 23)).alloc (.cells #[.pointer (some ⟨w.heap.size, 0, none⟩), .pointer (some ⟨w.heap.size + 1, 0, none⟩)] 120)) (w.heap.size + 2) 120 #[.pointer (some ⟨w.heap.size, 0, none⟩), .pointer (some ⟨w.heap.size + 1, 0, none⟩)] := Blk.fresh_at _ _ _ (by simp)
  have hSP : Sl (((w.alloc (.cells #[.int .u64 0] 23)).alloc (.cells #[.int .u64 0] 23)).alloc (.cells #[.pointer (some ⟨w.heap.size, 0, none⟩), .pointer (some ⟨w.heap.size + 1, 0, none⟩)] 120)) 1 (some ⟨w.heap.size + 2, 0, none⟩) 2 2 [.pointer (some ⟨w.heap.size, 0, none⟩), .pointer (some ⟨w.heap.size + 1, 0, none⟩)] := Sl.of_blk (n := 2) hP rfl (by decide) (by intro u hu; simp at hu; rcases hu with rfl | rfl <;> rfl)
  have hR3 := hR.keep0 hk3
  rw [show uvarint i ++ uvarint b = numsB [(w.heap.size, i), (w.heap.size + 1, b)] by simp [numsB]] at hR3
  have hRd := readU_any [(w.heap.size, i), (w.heap.size + 1, b)] (some ⟨w.heap.size + 2, 0, none⟩) 2 (some ⟨g, o + 1, none⟩) (bc - 1) _ hR3 hSP (by simpa using ⟨⟨_, hX⟩, ⟨_, hY⟩⟩) (by simp) (by simpa using ⟨(show i < 18446744073709551616 by omega), h2l⟩) (by simp) (by simp; omega) (by simp) (by omega)
  have hlen : (numsB [(w.heap.size, i), (w.heap.size + 1, b)]).length = (uvarint i ++ uvarint b).length := by simp [numsB]
  rw [hlen] at hRd
  have HR := Lib.hid (And.intro hRd (And.intro hk3 h))
  have e1 : (4 :: (uvarint i ++ uvarint b)).length = (uvarint i ++ uvarint b).length + 1 := rfl
  rw [e1]
  have hzp : 0 < (uvarint i ++ uvarint b).length := by simp; omega
  obtain ⟨z, hz⟩ : ∃ z, z = (uvarint i ++ uvarint b).length := ⟨_, rfl⟩
  rw [← hz] at HR hc3 hzp ⊢
  have m1 : ¬ ((((z + 1 : Nat)) : Int) = 0) := by omega
  have m2 : (1 : Int) ≤ ((z + 1 : Nat) : Int) := by omega
  have m3 : (((z + 1 : Nat)) : Int) ≤ (bc : Int) := by omega
  have m4 : (0 : Int) < ((z + 1 : Nat) : Int) := by omega
  have m5 : ¬ (bc = 1) := by omega
  have m6 : z + 1 - 1 = z := by omega
  have m7 : g < w.heap.size + 1 := by omega
  have m8 : g < w.heap.size + 1 + 1 := by omega
  have HB := Lib.hid hbd
  clear hRd hR3 hX hY hP hSP hk1 hk2 e1 hlen hR hb h hz hby hbd
  go_enter Tryz.func35, Tryz.ntmps35
  go_wp2_with fail
  refine HR.out.1.mono ?_
  rintro e w2 ⟨rfl, hD, hkr⟩
  have hg2 := hkr.cellSome (hk3.cellSome hg0 (by simp)) (by simp; omega)
  obtain ⟨-, -, h⟩ := HR.out
  have hX2 := hD (w.heap.size, i) (by simp)
  have hY2 := hD (w.heap.size + 1, b) (by simp)
  have hk03 : Keeps [] w w2 := hk3.step hkr (fun x hx => .inr (by simp at hx; omega))
  have hC := wdrops (h.keep0 hk03) i b hm1 hm2 (by omega)
  have HC := Lib.hid (And.intro hC hk03)
  have hcX := hX2.cell
  have hcY := hY2.cell
  clear hD hX2 hY2 hk03 hC h hk3
  go_wp2_with fail
  refine HC.out.1.mono ?_
  rintro e w3 ⟨rfl, E', hW, hE', hk4⟩
  go_wp2_with fail
  go_ret
  rw [HB.out] at hW
  exact ⟨rfl, E', hW, fun x hx => .inl (hE' x hx), HC.out.2.of_nil.trans (hk4.mono (by simp))⟩

set_option maxRecDepth 100000 in
set_option maxHeartbeats 4000000 in
theorem plays_hard (h : WalAt w wb db s size E) (_ : s.es.length ≤ 1000000) (t : Nat) (v : Int) (hm : (Ev.hard t v).May s) (bo : Option Addr) (bc : Nat) (hb : Rb w bo bc (Ev.hard t v).bytes) (hbc : bc ≤ 9223372036854775807) :
    Calls Tryz.prog 35 #[.pointer (some ⟨wb, 0, none⟩), .slice bo (Ev.hard t v).bytes.length bc] w (PlPost w wb db s size E (Ev.hard t v)) := by
  obtain ⟨hm1, hm2⟩ := hm
  obtain ⟨b, hbd⟩ : ∃ b, b = (v + 1).toNat := ⟨_, rfl⟩
  have hby : (Ev.hard t v).bytes = 1 :: (uvarint t ++ uvarint b) := by rw [hbd]; rfl
  have h2l : b < 18446744073709551616 := by rw [hbd]; exact (by omega)
  rw [hby] at hb ⊢
  obtain ⟨g, o, rfl, hgl, hg0, hR, hc2, hc3⟩ := hb.first (by simp [uvarint_ne])
  have hup := uvarint_pos t
  have hk1 := (Keeps.refl [] w).alloc (.cells #[.int .u64 0] 23)
  have hk2 := hk1.alloc (.cells #[.int .u64 0] 23)
  have hk3 := hk2.alloc (.cells #[.pointer (some ⟨w.heap.size, 0, none⟩), .pointer (some ⟨w.heap.size + 1, 0, none⟩)] 120)
  have hX : Blk (((w.alloc (.cells #[.int .u64 0] 23)).alloc (.cells #[.int .u64 0] 23)).alloc (.cells #[.pointer (some ⟨w.heap.size, 0, none⟩), .pointer (some ⟨w.heap.size + 1, 0, none⟩)] 120)) w.heap.size 23 #[.int .u64 0] := ((Blk.fresh w 23 #[.int .u64 0]).alloc _).alloc _
  have hY : Blk (((w.alloc (.cells #[.int .u64 0] 23)).alloc (.cells #[.int .u64 0] 23)).alloc (.cells #[.pointer (some ⟨w.heap.size, 0, none⟩), .pointer (some ⟨w.heap.size + 1, 0, none⟩)] 120)) (w.heap.size + 1) 23 #[.int .u64 0] := (Blk.fresh_at (w.alloc (.cells #[.int .u64 0] 23)) 23 #[.int .u64 0] (by simp)).alloc _
  have hP : Blk (((w.alloc (.cells #[.int .u64 0] 23)).alloc (.cells #[.int .u64 0] 23)).alloc (.cells #[.pointer (some ⟨w.heap.size, 0, none⟩), .pointer (some ⟨w.heap.size + 1, 0, none⟩)] 120)) (w.heap.size + 2) 120 #[.pointer (some ⟨w.heap.size, 0, none⟩), .pointer (some ⟨w.heap.size + 1, 0, none⟩)] := Blk.fresh_at _ _ _ (by simp)
  have hSP : Sl (((w.alloc (.cells #[.int .u64 0] 23)).alloc (.cells #[.int .u64 0] 23)).alloc (.cells #[.pointer (some ⟨w.heap.size, 0, none⟩), .pointer (some ⟨w.heap.size + 1, 0, none⟩)] 120)) 1 (some ⟨w.heap.size + 2, 0, none⟩) 2 2 [.pointer (some ⟨w.heap.size, 0, none⟩), .pointer (some ⟨w.heap.size + 1, 0, none⟩)] := Sl.of_blk (n := 2) hP rfl (by decide) (by intro u hu; simp at hu; rcases hu with rfl | rfl <;> rfl)
  have hR3 := hR.keep0 hk3
  rw [show uvarint t ++ uvarint b = numsB [(w.heap.size, t), (w.heap.size + 1, b)] by simp [numsB]] at hR3
  have hRd := readU_any [(w.heap.size, t), (w.heap.size + 1, b)] (some ⟨w.heap.size + 2, 0, none⟩) 2 (some ⟨g, o + 1, none⟩) (bc - 1) _ hR3 hSP (by simpa using ⟨⟨_, hX⟩, ⟨_, hY⟩⟩) (by simp) (by simpa using ⟨hm1, h2l⟩) (by simp) (by simp; omega) (by simp) (by omega)
  have hlen : (numsB [(w.heap.size, t), (w.heap.size + 1, b)]).length = (uvarint t ++ uvarint b).length := by simp [numsB]
  rw [hlen] at hRd
  have HR := Lib.hid (And.intro hRd (And.intro hk3 h))
  have e1 : (1 :: (uvarint t ++ uvarint b)).length = (uvarint t ++ uvarint b).length + 1 := rfl
  rw [e1]
  have hzp : 0 < (uvarint t ++ uvarint b).length := by simp; omega
  obtain ⟨z, hz⟩ : ∃ z, z = (uvarint t ++ uvarint b).length := ⟨_, rfl⟩
  rw [← hz] at HR hc3 hzp ⊢
  have m1 : ¬ ((((z + 1 : Nat)) : Int) = 0) := by omega
  have m2 : (1 : Int) ≤ ((z + 1 : Nat) : Int) := by omega
  have m3 : (((z + 1 : Nat)) : Int) ≤ (bc : Int) := by omega
  have m4 : (0 : Int) < ((z + 1 : Nat) : Int) := by omega
  have m5 : ¬ (bc = 1) := by omega
  have m6 : z + 1 - 1 = z := by omega
  have m7 : g < w.heap.size + 1 := by omega
  have m8 : g < w.heap.size + 1 + 1 := by omega
  have HB := Lib.hid hbd
  clear hRd hR3 hX hY hP hSP hk1 hk2 e1 hlen hR hb h hz hby hbd
  go_enter Tryz.func35, Tryz.ntmps35
  go_wp2_with fail
  refine HR.out.1.mono ?_
  rintro e w2 ⟨rfl, hD, hkr⟩
  have hg2 := hkr.cellSome (hk3.cellSome hg0 (by simp)) (by simp; omega)
  obtain ⟨-, -, h⟩ := HR.out
  have hX2 := hD (w.heap.size, t) (by simp)
  have hY2 := hD (w.heap.size + 1, b) (by simp)
  have hk03 : Keeps [] w w2 := hk3.step hkr (fun x hx => .inr (by simp at hx; omega))
  obtain ⟨ao, c, hB, hO, rfl⟩ := h.at_
  have hB2 := hB.keep hk03 (by simp)
  have hO2 := hO.keep0 hk03
  have q1 : IntKind.i64.wrap (b : Int) = b := IntWalk.i64_in _ (by have := HB.out; omega)
  have q2 : IntKind.i64.wrap ((b : Int) - 1) = v := by rw [IntWalk.i64_in _ (by have := HB.out; omega)]; have := HB.out; omega
  have HC := Lib.hid (And.intro hk03 (And.intro hB2 hO2))
  have hcX := hX2.cell
  have hcY := hY2.cell
  clear hD hX2 hY2 hk03 h hk3 hO hO2 hB
  go_wp2_with (refine wpList_store_agg rfl rfl 25 _ _ rfl wb 1 rfl [.int .u64 (t : Nat), .int .i64 v] rfl 81 _ hB2 Tryz.sizeHard (by simp [walCells]) rfl _ rfl ?_; intro w6 hM6 hk6)
  go_ret
  obtain ⟨hk03, hB2, hO2⟩ := HC.out
  refine ⟨rfl, blks ao, ⟨ao, c, hM6.eq (by simp [walCells, Ws.ev]), ?_, rfl⟩, fun x hx => .inl hx, hk03.of_nil.trans (hk6.mono (by simp))⟩
  exact hO2.keep hk6 (fun x hx => by simp; rintro rfl; exact hO2.off hB2 (by decide) hx)
end
end Go.Proofs.YtfgmbjdeimallaaGreatDoor
/- The wal: an entry's frame is played; a frame is played, whatever it tells. -/

namespace Go.Proofs.YtfgmbjdeimallaaGreatDoor
open Go.RowKit Go.Lib

section
variable {w : World} {wb db : Nat} {s : Ws} {size : Int} {E : List Nat}
set_option maxRecDepth 100000 in
set_option maxHeartbeats 4000000 in
theorem plays_ent (h : WalAt w wb db s size E) (hl : s.es.length ≤ 1000000) (x : Ent) (hm : x.May) (bo : Option Addr) (bc : Nat) (hb : Rb w bo bc (Ev.ent x).bytes) (hbc : bc ≤ 9223372036854775807) :
    Calls Tryz.prog 35 #[.pointer (some ⟨wb, 0, none⟩), .slice bo (Ev.ent x).bytes.length bc] w (PlPost w wb db s size E (.ent x)) := by
  obtain ⟨i, z, hi, hz, hsz, hby, hzc⟩ := infoEn
  have hne : putE x ≠ [] := by unfold putE; simp [uvarint_ne]
  obtain ⟨g, o, rfl, hgl, hg0, hR, hc2, hc3⟩ := hb.first hne
  have hup := List.length_pos_iff.2 hne
  have hk1 := (Keeps.refl [] w).alloc (.cells #[.int .u64 0] 23)
  have hk2 := hk1.alloc (.cells #[.int .u64 0] 23)
  have hP := entP_put x [] hm.1 hm.2.1 hm.2.2.1 hm.2.2.2
  rw [List.append_nil] at hP
  have hR2 := hR.keep0 hk2
  have hmx := hR.most
  have hpl := putE_length hm
  have hsq := hm.1
  simp only [entOk, Bool.and_eq_true, decide_eq_true_eq] at hsq
  have hsq := hsq.1
  have hEn := entry_any (some ⟨g, o + 1, none⟩) (bc - 1) (putE x) ((w.alloc (.cells #[.int .u64 0] 23)).alloc (.cells #[.int .u64 0] 23)) hR2 (fun ad e => by cases e; simp; omega) (by omega) x _ 0 hP
  have e1 : (Ev.ent x).bytes.length = (putE x).length + 1 := rfl
  rw [e1]
  have HR := Lib.hid (And.intro hEn (And.intro hk2 h))
  obtain ⟨n, hn⟩ : ∃ n, n = (putE x).length := ⟨_, rfl⟩
  rw [← hn] at HR hc3 hup ⊢
  have m1 : ¬ ((((n + 1 : Nat)) : Int) = 0) := by omega
  have m2 : (1 : Int) ≤ ((n + 1 : Nat) : Int) := by omega
  have m3 : (((n + 1 : Nat)) : Int) ≤ (bc : Int) := by omega
  have m4 : (0 : Int) < ((n + 1 : Nat) : Int) := by omega
  have m5 : ¬ (bc = 1) := by omega
  have m6 : n + 1 - 1 = n := by omega
  clear hEn hR2 hk1 hk2 e1 hR hb h hn hP hmx hne hpl hsq
  go_enter Tryz.func35, Tryz.ntmps35
  go_wp2_with fail
  refine HR.out.1.mono ?_
  rintro e w2 ⟨ev, rfl, hE, hk3⟩
  obtain rfl := hE.zero.2 rfl
  obtain ⟨-, hk2, h⟩ := HR.out
  have hk03 := hk2.trans hk3
  have h2 := h.keep0 hk03
  have hk4 := hk03.alloc (.cells x.cells 65)
  have hX := Blk.fresh w2 65 x.cells
  have HLT := Lib.hid h2.ltE
  have HLW := Lib.hid hk03.size
  obtain ⟨ao, c, hB, hO, rfl⟩ := (h2.keep0 ((Keeps.refl [] w2).alloc (.cells x.cells 65))).at_
  have HW := Lib.hid (And.intro hB (And.intro hO (And.intro hk4 hX)))
  have hcB := hB.cell
  have hcX := hX.cell
  have hlB := hB.lt
  have hfB := hB.free
  clear hE hk2 h hk03 h2 hk4 hB hO hX
  go_upto_region 13 with (refine wpList_store_fresh rfl rfl _ _ _ rfl _ rfl rfl _ rfl _ _ Tryz.sizeE (by simp) rfl ?_)
  obtain ⟨xb, hxb⟩ : ∃ xb, xb = w2.heap.size := ⟨_, rfl⟩
  rw [← hxb] at HW HLT HLW ⊢
  clear hcB hcX hlB hfB hxb
  generalize World.alloc w2 _ = w3 at *
  obtain ⟨hB, hO, hk4, hX⟩ := HW.out
  have hxE : xb ∉ blks ao := fun hx => by have := HLT.out _ hx; omega
  have hwE : wb ∉ blks ao := hO.off hB (by decide)
  have hR0 : ∀ W : World, Keeps (blks ao) w3 W → ∀ q ∈ [((4 : Nat), fun w0 : World => w0.cell? ⟨wb, 5, none⟩ = some (.slice ao s.es.length c)), ((5 : Nat), fun w0 : World => Blk w0 xb 65 x.cells)], q.2 W := by
    intro W hW q hq
    have hB' := hB.keep hW hwE
    have hX' := hX.keep hW hxE
    simp only [List.mem_cons, List.not_mem_nil, or_false] at hq
    rcases hq with rfl | rfl
    · have := hB'.cell 5
      simpa using this
    · exact hX'
  have HR0 := Lib.hid hR0
  have hkd := (Keeps.refl (blks ao) w3).drew
  have hSw := HR0.out _ hkd
  have hBd := hB.drew
  have hOd := hO.keep0 ((Keeps.refl [] w3).drew)
  have hk5 := hk4.drew
  clear hR0 hB hO hk4 hX HW
  refine startU [((4 : Nat), fun w0 : World => w0.cell? ⟨wb, 5, none⟩ = some (.slice ao s.es.length c)), ((5 : Nat), fun w0 : World => Blk w0 xb 65 x.cells)] (by kernel_rfl) ?_
  generalize World.drew w3 = w4 at *
  refine takeU (i := 0) (v := ?_) rfl (by kernel_rfl) (fun _ _ _ h => h) (Or.inl ⟨by rfl, fun w0 hw0 => ?_⟩) (fun p hp _ => hSw p hp) ?_
  rotate_left
  · simp [Reads] at hw0
    go_simp
    try with_reducible rfl
  try go_simp
  refine takeU (i := 1) (v := ?_) rfl (by kernel_rfl) (fun _ _ _ h => h) (Or.inl ⟨by rfl, fun w0 hw0 => ?_⟩) (fun p hp _ => hSw p hp) ?_
  rotate_left
  · simp [Reads] at hw0
    go_simp
    try with_reducible rfl
  try go_simp
  refine takeU (i := 2) (v := ?_) rfl (by kernel_rfl) (fun _ _ _ h => h) (Or.inl ⟨by rfl, fun w0 hw0 => ?_⟩) (fun p hp _ => hSw p hp) ?_
  rotate_left
  · simp [Reads] at hw0
    go_simp
    try with_reducible rfl
  try go_simp
  refine takeU (i := 3) (v := ?_) rfl (by kernel_rfl) (fun _ _ _ h => h) (Or.inl ⟨by rfl, fun w0 hw0 => ?_⟩) (fun p hp _ => hSw p hp) ?_
  rotate_left
  · simp [Reads] at hw0
    go_simp
    try with_reducible rfl
  try go_simp
  refine takeU (i := 4) (v := ?_) rfl (by kernel_rfl) (fun _ _ _ h => h) (Or.inl ⟨by rfl, fun w0 hw0 => ?_⟩) (fun p hp _ => hSw p hp) ?_
  rotate_left
  · simp [Reads] at hw0
    go_simp
    try with_reducible rfl
  try go_simp
  refine takeU (i := 5) (v := .agg x.cells) rfl (by kernel_rfl) (fun _ _ _ h => h) (Or.inl ⟨by rfl, fun w0 hw0 => ?_⟩) (fun p hp _ => hSw p hp) ?_
  · simp [Reads] at hw0
    exact load_yieldsW 65 (.tmp 8) rfl xb 0 5 rfl 65 _ _ hw0 Tryz.underlying65 rfl Tryz.sizeE (by simp) _ rfl
  clear hSw
  refine oneU (i := 6) rfl (by kernel_rfl) (fun K hK => ?_)
  refine step_slice1 rfl 22 65 _ rfl i z (.agg x.cells) 5 Tryz.underlying22 hi hz hsz rfl rfl (by omega) (by omega) ?_
  have hkL := (Keeps.refl [] w4).alloc (.cells x.cells 65)
  have hY := Blk.fresh w4 65 x.cells
  have hYs : Re (w4.alloc (.cells x.cells 65)) (some ⟨w4.heap.size, 0, none⟩) 1 [x] := by
    have := Sl.of_blk (n := 1) (sz := 5) hY rfl (by decide) (by intro u hu; simp at hu; rcases hu with rfl | rfl | rfl | rfl | rfl <;> rfl)
    have e : ents [x] = x.cells.toList := by simp [ents]
    show Sl _ 5 _ 1 1 (ents [x])
    rw [e]
    exact this
  have hkd2 := hkd.trans hkL.of_nil
  have hB5 := hBd.keep hkL (by simp)
  have hO5 := hOd.keep0 hkL
  have hk6 := hk5.trans hkL
  refine hK _ _ (fun q hq _ _ => HR0.out _ hkd2 q hq) ?_
  clear hK K hBd hOd hk5 hkd hkL hY
  change wpAnyU _ _ _ _ _ _ _ _ (World.alloc w4 (.cells x.cells 65))
  generalize World.alloc w4 _ = w5 at *
  try go_simp
  refine oneU (i := 7) rfl (by kernel_rfl) (fun K hK => ?_)
  refine step_append_bo rfl _ _ 22 22 rfl 65 i z 5 48 Tryz.underlying22 hi hz hsz hby hzc ao _ c _ rfl hO5 _ rfl 1 _ (hYs.src Tryz.underlying22) (by unfold maxLen; omega) (by omega) ?_
  intro a6 c6 w6 hO6 hk7 hb6 h06
  have hB6 := hB5.keep hk7 hwE
  have hkd3 := hkd2.trans hk7
  refine hK _ _ (fun q hq _ _ => HR0.out _ hkd3 q hq) ?_
  have HBB := Lib.hid (And.intro hB6 (And.intro hO6 (And.intro (hk6.of_nil.trans hk7) hb6)))
  have hSw := HR0.out _ hkd3
  have HS6 := Lib.hid hk6.size
  clear hK K hB5 hO5 hk6 hkd2 hkd3 hk7 hb6 h06 hYs
  try go_simp
  refine takeU (i := 8) (v := ?_) rfl (by kernel_rfl) (fun _ _ _ h => h) (Or.inl ⟨by rfl, fun w0 hw0 => ?_⟩) (fun p hp _ => hSw p hp) ?_
  rotate_left
  · simp [Reads] at hw0
    go_simp
    try with_reducible rfl
  try go_simp
  refine takeU (i := 9) (v := ?_) rfl (by kernel_rfl) (fun _ _ _ h => h) (Or.inl ⟨by rfl, fun w0 hw0 => ?_⟩) (fun p hp _ => hSw p hp) ?_
  rotate_left
  · simp [Reads] at hw0
    go_simp
    try with_reducible rfl
  try go_simp
  have hfB := hB6.free
  have hcB := hB6.cell
  have hlB := hB6.lt
  clear hB6 hSw
  refine oneU (i := 10) rfl (by kernel_rfl) (fun K hK => ?_)
  go_simp
  refine hK _ _ (fun p hp h1 _ => by simp only [List.mem_cons, List.not_mem_nil, or_false] at hp; rcases hp with rfl | rfl <;> exact waits_absurd h1 (by kernel_rfl)) ?_
  clear hK K
  refine doneU (by kernel_rfl) ?_
  go_wp2_with fail
  go_ret
  obtain ⟨hB6, hO6, hk7, hb6⟩ := HBB.out
  have hks := (Keeps.refl [wb] w6).set (p := ⟨wb, 5, none⟩) (.inl (by simp)) (.slice a6 (s.es.length + 1) c6)
  refine ⟨rfl, blks a6, ⟨a6, c6, (hB6.put 5 (.slice a6 (s.es.length + 1) c6)).eq ?_, ?_, rfl⟩, fun y hy => (hb6 y hy).imp id (fun h => ?_), ?_⟩
  · simp [walCells, Ws.ev]
  · have e2 : (s.ev (.ent x)).es.length = s.es.length + 1 := by simp [Ws.ev]
    have e3 : ents (s.ev (.ent x)).es = ents s.es ++ ents [x] := by simp [Ws.ev, ents_append]
    rw [e2, e3]
    exact hO6.keep hks (fun y hy => by
      simp
      rintro rfl
      exact (hO6.off hB6 (by decide)) hy)
  · have := HS6.out
    have := HLW.out
    omega
  · exact (hk7.mono (fun y hy => .tail _ hy)).trans (hks.mono (by simp))

theorem plays_any (h : WalAt w wb db s size E) (hs : s.Ok) (hl : s.es.length ≤ 1000000) (ev : Ev) (hm : ev.May s) (bo : Option Addr) (bc : Nat) (hb : Rb w bo bc ev.bytes) (hbc : bc ≤ 9223372036854775807) :
    Calls Tryz.prog 35 #[.pointer (some ⟨wb, 0, none⟩), .slice bo ev.bytes.length bc] w (PlPost w wb db s size E (ev)) := by
  cases ev with
  | hard t v => exact plays_hard h hl t v hm bo bc hb hbc
  | ent e => exact plays_ent h hl e hm bo bc hb hbc
  | cut n => exact plays_cut h hs hl n hm bo bc hb hbc
  | drop i t => exact plays_drop h hl i t hm bo bc hb hbc
end
end Go.Proofs.YtfgmbjdeimallaaGreatDoor
