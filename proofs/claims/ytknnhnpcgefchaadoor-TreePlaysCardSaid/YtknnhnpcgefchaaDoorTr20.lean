/- The tree itself: Put. -/
import Derived.Test.YtknnhnpcgefchaaDoorTr23

namespace Go.Proofs.YtknnhnpcgefchaaDoor
open Go.RowKit Go.Lib

theorem two_of {α : Type} {l : List α} (h : l.length = 2) : ∃ x y, l = [x, y] := by
  rcases l with _ | ⟨x, _ | ⟨y, _ | ⟨z, t⟩⟩⟩
  · simp at h
  · simp at h
  · exact ⟨x, y, rfl⟩
  · simp at h
theorem built_R (co : Option Addr) (k i : Nat) : Tryd.prog.built 55 [(2, .slice co k i)] = some #[.slice none 0 0, .slice none 0 0, .slice co k i] := by kernel_rfl
theorem built_P (a b : Option Addr) (n c m d : Nat) : Tryd.prog.built 64 [(0, .slice a n c), (1, .slice b m d)] = some #[.slice a n c, .slice b m d] := by kernel_rfl
set_option maxRecDepth 100000 in
set_option maxHeartbeats 4000000 in
theorem tput {w : World} {F : Nat → Prop} {t : Nat} {l : List KV} {ko vo : Option Addr} {kc vc : Nat} {k v : Bs} (h : TreeAt w F t l) (hk : Rb w ko kc k) (hv : Rb w vo vc v) (hkl : k.length ≤ 1000000) (hvl : v.length ≤ 1000000) (hll : l.length < 1000000000) :
    Calls Tryd.prog 10 #[.pointer (some ⟨t, 0, none⟩), .slice ko k.length kc, .slice vo v.length vc] w fun e w' => e = .returned (.bool (!has k l)) ∧ TreeAt w' (Grown F w) t (ins k v l) ∧ Keeps [t] w w' := by
  have htl := h.lt
  obtain ⟨⟨d, root, hB, hN⟩, hFt⟩ := h
  have c0 : w.cell? ⟨t, 0, none⟩ = some (.pointer (some ⟨root, 0, none⟩)) := hB.cell 0
  go_enter Tryd.func10, Tryd.ntmps10
  go_upto_region 1 with (fail)
  have HR0 : (∀ W : World, Keeps [] w W → ∀ q ∈ [((3 : Nat), fun w0 : World => w0.cell? ⟨t, 0, none⟩ = some (.pointer (some ⟨root, 0, none⟩)))], q.2 W) := fun W hW => rds1 (hW.cellSome c0 (by simp))
  have hkd := (Keeps.refl [] w).drew
  have hSw := HR0 _ hkd
  have HR := Lib.hid HR0
  clear HR0
  refine startU [((3 : Nat), fun w0 : World => w0.cell? ⟨t, 0, none⟩ = some (.pointer (some ⟨root, 0, none⟩)))] (by kernel_rfl) ?_
  refine takeU (i := 0) (v := ?_) rfl (by kernel_rfl) (fun _ _ _ h => h) (Or.inl ⟨by rfl, fun w0 hw0 => ?_⟩) (fun p hp _ => hSw p hp) ?_
  rotate_left
  · simp [Reads] at hw0
    go_simp
    try with_reducible rfl
  try go_simp
  refine takeU (i := 1) (v := ?_) rfl (by kernel_rfl) (fun _ _ _ h => h) (Or.inl ⟨by rfl, fun w0 hw0 => ?_⟩) (fun p hp _ => hSw p hp) ?_
  rotate_left
  · simp [Reads] at hw0
    go_simp
    try with_reducible rfl
  try go_simp
  refine takeU (i := 2) (v := ?_) rfl (by kernel_rfl) (fun _ _ _ h => h) (Or.inl ⟨by rfl, fun w0 hw0 => ?_⟩) (fun p hp _ => hSw p hp) ?_
  rotate_left
  · simp [Reads] at hw0
    go_simp
    try with_reducible rfl
  try go_simp
  refine takeU (i := 3) (v := ?_) rfl (by kernel_rfl) (fun _ _ _ h => h) (Or.inl ⟨by rfl, fun w0 hw0 => ?_⟩) (fun p hp _ => hSw p hp) ?_
  rotate_left
  · simp [Reads] at hw0
    go_simp
    try with_reducible rfl
  try go_simp
  refine takeU (i := 4) (v := ?_) rfl (by kernel_rfl) (fun _ _ _ h => h) (Or.inl ⟨by rfl, fun w0 hw0 => ?_⟩) (fun p hp _ => hSw p hp) ?_
  rotate_left
  · simp [Reads] at hw0
    go_simp
    try with_reducible rfl
  try go_simp
  refine takeU (i := 6) (v := ?_) rfl (by kernel_rfl) (fun _ _ _ h => h) (Or.inl ⟨by rfl, fun w0 hw0 => ?_⟩) (fun p hp _ => hSw p hp) ?_
  rotate_left
  · simp [Reads] at hw0
    go_simp
    try with_reducible rfl
  try go_simp
  clear hSw
  refine oneU (i := 5) rfl (by kernel_rfl) (fun K hK => ?_)
  rw [if_pos (show Region.wanted _ _ = true from rfl)]
  go_wp2_with fail
  refine (bclone ko kc k _ (hk.keep0 hkd) hkl).mono ?_
  rintro e w2 ⟨ka, kc2, rfl, hka, hkf, hk2⟩
  simp only []
  refine hK _ _ (fun q hq _ _ => HR.out _ (hkd.trans hk2) q hq) ?_
  clear hK K
  try go_simp
  refine oneU (i := 7) rfl (by kernel_rfl) (fun K hK => ?_)
  rw [if_pos (show Region.wanted _ _ = true from rfl)]
  go_wp2_with fail
  refine (bclone vo vc v _ ((hv.keep0 hkd).keep0 hk2) hvl).mono ?_
  rintro e w3 ⟨va, vc2, rfl, hva, hvf, hk3⟩
  simp only []
  have hk03 := (hkd.trans hk2).trans hk3
  refine hK _ _ (fun q hq _ _ => HR.out _ hk03 q hq) ?_
  clear hK K
  try go_simp
  have bP := built_P ka va k.length kc2 v.length vc2
  have hSw := HR.out _ hk03
  refine takeU (i := 8) (v := ?_) rfl (by kernel_rfl) (fun _ _ _ h => h) (Or.inl ⟨by rfl, fun w0 hw0 => ?_⟩) (fun p hp _ => hSw p hp) ?_
  rotate_left
  · simp [Reads] at hw0
    go_simp
    try with_reducible rfl
  try go_simp
  clear hSw
  refine oneU (i := 9) rfl (by kernel_rfl) (fun K hK => ?_)
  rw [if_pos (show Region.wanted _ _ = true from rfl)]
  go_wp2_with fail
  have hs1 := hkd.size
  have hs2 := (hkd.trans hk2).size
  have hka3 := hka.keep0 hk3
  have hp : PrOk w3 (Grown F w) ⟨ka, kc2, va, vc2, k, v⟩ := by
    constructor
    · exact hka3
    · exact hva
    · exact fun ad e hx => Or.inr (Nat.le_trans hs1 (hkf ad e hx))
    · exact fun ad e hx => Or.inr (Nat.le_trans hs2 (hvf ad e hx))
    · exact hkl
    · exact hvl
  have hN3 := (hN.grow w).keep0 hk03
  refine (nput d w3 (Grown F w) (if d = 0 then 0 else 2) root [] l ⟨ka, kc2, va, vc2, k, v⟩ hN3 hp (nil_leB k)).mono ?_
  rintro e w4 ⟨g, cs, he, hP⟩
  obtain ⟨nw, hnw⟩ : ∃ nw, nw = !has k l := ⟨_, rfl⟩
  change e = .returned (.tuple #[.slice (some ⟨g, 0, none⟩) cs.length cs.length, .bool (!has k l)]) at he
  rw [← hnw] at he
  subst he
  have HNW := Lib.hid hnw
  clear hnw
  have hk4 := hP.keeps
  have hk04 := hk03.trans hk4
  simp only []
  refine hK _ _ (fun q hq _ _ => HR.out _ hk04 q hq) ?_
  clear hK K
  try go_simp
  have hSw := HR.out _ hk04
  refine takeU (i := 10) (v := ?_) rfl (by kernel_rfl) (fun _ _ _ h => h) (Or.inl ⟨by rfl, fun w0 hw0 => ?_⟩) (fun p hp _ => hSw p hp) ?_
  rotate_left
  · simp [Reads] at hw0
    go_simp
    try with_reducible rfl
  try go_simp
  refine takeU (i := 11) (v := ?_) rfl (by kernel_rfl) (fun _ _ _ h => h) (Or.inl ⟨by rfl, fun w0 hw0 => ?_⟩) (fun p hp _ => hSw p hp) ?_
  rotate_left
  · simp [Reads] at hw0
    go_simp
    try with_reducible rfl
  try go_simp
  refine takeU (i := 12) (v := ?_) rfl (by kernel_rfl) (fun _ _ _ h => h) (Or.inl ⟨by rfl, fun w0 hw0 => ?_⟩) (fun p hp _ => hSw p hp) ?_
  rotate_left
  · simp [Reads] at hw0
    go_simp
    try with_reducible rfl
  try go_simp
  refine takeU (i := 13) (v := ?_) rfl (by kernel_rfl) (fun _ _ _ h => h) (Or.inl ⟨by rfl, fun w0 hw0 => ?_⟩) (fun p hp _ => hSw p hp) ?_
  rotate_left
  · simp [Reads] at hw0
    go_simp
    try with_reducible rfl
  try go_simp
  refine takeU (i := 14) (v := ?_) rfl (by kernel_rfl) (fun _ _ _ h => h) (Or.inl ⟨by rfl, fun w0 hw0 => ?_⟩) (fun p hp _ => hSw p hp) ?_
  rotate_left
  · simp [Reads] at hw0
    go_simp
    try with_reducible rfl
  try go_simp
  refine doneU (by kernel_rfl) ?_
  have hB4 := hB.keep hk04 (by simp)
  have hG := hP.blk
  have hs03 := hk03.size
  have hgt : t ≠ g := by have := hP.new; omega
  have hout : ¬ Grown F w t := fun h => by rcases h with h | h; exact hFt h; omega
  have gM : ∀ x, Grown (Grown F w) w3 x → x < w4.heap.size → Grown F w x := fun x h _ => by
    rcases h with h | h
    · exact h
    · exact .inr (Nat.le_trans hs03 h)
  have hil := ins_len (k := k) hN.ord.1 v
  have HIL := Lib.hid hil
  have q5 : IntKind.i64.wrap ((l.length : Int) + 1) = (l.length : Int) + 1 := IntWalk.i64_in _ (by omega)
  have hpl := hP.len
  have hkt := (Keeps.refl [t] w4)
  have hln : ∀ n : Nat, nw = false → (ins k v l).length = l.length := fun n h => by
    rw [HIL.out]; have := HNW.out; rw [h] at this; simp at this; rw [if_pos this]
  have hln2 : ∀ n : Nat, nw = true → (ins k v l).length = l.length + 1 := fun n h => by
    rw [HIL.out]; have := HNW.out; rw [h] at this; simp at this; rw [this]; rfl
  have HLN := Lib.hid hln
  have HLN2 := Lib.hid hln2
  have HPL := Lib.hid hpl
  clear hSw HR hkd hk2 hk3 c0 bP hil hpl hln hln2
  have hct := hB4.cell
  have hft := hB4.free
  have hlt := hB4.lt
  rcases HPL.out with h1 | h2
  · obtain ⟨x, rfl⟩ := List.length_eq_one_iff.1 h1
    clear HPL
    have cg : w4.cell? ⟨g, 0, none⟩ = some (.pointer (some ⟨x.b, 0, none⟩)) := hG.cell 0
    have hx := hP.at_ x List.mem_cons_self
    rw [if_neg (by simp)] at hx
    have hxf : x.f = [] := by simpa using hP.head
    have hxl : x.l = ins k v l := by simpa [flat] using hP.flat
    rw [hxf, hxl] at hx
    clear hxf hxl h1
    cases nw
    · go_wp2_with fail
      go_ret
      have hB5 := (hB4.put 0 (.pointer (some ⟨x.b, 0, none⟩))).eq (cs' := #[.pointer (some ⟨x.b, 0, none⟩), .int .i64 (l.length : Nat)]) (by simp)
      have hk5 := hkt.set (p := ⟨t, 0, none⟩) (.inl (by simp)) (.pointer (some ⟨x.b, 0, none⟩))
      refine ⟨?_, ⟨⟨d, x.b, ?_, (hx.mono gM).keep hk5 (fun y hy => by simp at hy; subst hy; exact hout)⟩, hout⟩, hk04.of_nil.trans hk5⟩
      · rw [← HNW.out]
        rfl
      · rw [HLN.out 0 (by simp)]
        exact hB5
    · go_wp2_with fail
      go_ret
      have hB5 := ((hB4.put 0 (.pointer (some ⟨x.b, 0, none⟩))).put 1 (.int .i64 ((l.length : Int) + 1))).eq (cs' := #[.pointer (some ⟨x.b, 0, none⟩), .int .i64 ((l.length + 1 : Nat) : Int)]) (by simp)
      have hk5 := (hkt.set (p := ⟨t, 0, none⟩) (.inl (by simp)) (.pointer (some ⟨x.b, 0, none⟩))).set (p := ⟨t, 1, none⟩) (.inl (by simp)) (.int .i64 ((l.length : Int) + 1))
      refine ⟨?_, ⟨⟨d, x.b, ?_, (hx.mono gM).keep hk5 (fun y hy => by simp at hy; subst hy; exact hout)⟩, hout⟩, hk04.of_nil.trans hk5⟩
      · rw [← HNW.out]
        rfl
      · rw [HLN2.out 0 (by simp)]
        exact hB5
  · obtain ⟨x, y, rfl⟩ := two_of h2
    clear HPL
    have cg : w4.cell? ⟨g, 0, none⟩ = some (.pointer (some ⟨x.b, 0, none⟩)) := hG.cell 0
    have hx : ∀ c ∈ [x, y], NdAt w4 (Grown F w) d 4 16 c.b c.f c.l := fun c hc => by
      have := hP.at_ c hc
      rw [if_pos (show [x, y].length = 2 from rfl)] at this
      exact this.mono gM
    have HX := Lib.hid hx
    clear h2 hx
    have bR := built_R (some ⟨g, 0, none⟩) 2 2
    have hgl := hG.lt
    have fin : ∀ w' n, Keeps [t] w4 w' → Blk w' w4.heap.size 55 #[.slice none 0 0, .slice none 0 0, .slice (some ⟨g, 0, none⟩) 2 2] → Blk w' t 57 #[.pointer (some ⟨w4.heap.size, 0, none⟩), .int .i64 (n : Nat)] → n = (ins k v l).length → TreeAt w' (Grown F w) t (ins k v l) ∧ Keeps [t] w w' := fun w' n hk5 hN5 hB5 hn => by
      refine ⟨⟨⟨d + 1, w4.heap.size, by rw [← hn]; exact hB5, ?_⟩, hout⟩, hk04.of_nil.trans hk5⟩
      have hG5 := hG.keep hk5 (by simpa using fun h => hgt h.symm)
      refine ⟨none, 0, none, 0, some ⟨g, 0, none⟩, 2, [x, y], hN5, .inr hk04.size, Sl.none _ _, Fr.nil _ _, Sl.none _ _, Sl.of_blk (n := 2) hG5 rfl (by decide) (fun u hu => ptrs_one [x, y] u hu), fun ad e _ => ?_, fun c hc => (HX.out c hc).keep hk5 (fun y hy => by simp at hy; subst hy; exact hout), hP.flat, hP.ahd, hP.head, by simp, by simp, by simp⟩
      cases e
      exact .inr (Nat.le_trans hs03 hP.new)
    have FIN := Lib.hid fin
    clear fin
    cases nw
    · go_wp2_with fail
      go_ret
      have hN5 := Blk.fresh_at ((w4.setCell ⟨t, 0, none⟩ (.pointer (some ⟨x.b, 0, none⟩))).setCell ⟨t, 0, none⟩ (.pointer (some ⟨w4.heap.size, 0, none⟩))) 55 #[.slice none 0 0, .slice none 0 0, .slice (some ⟨g, 0, none⟩) 2 2] (n := w4.heap.size) (by simp)
      have hB5 := ((((hB4.put 0 (.pointer (some ⟨x.b, 0, none⟩))).put 0 (.pointer (some ⟨w4.heap.size, 0, none⟩))).eq (cs' := #[.pointer (some ⟨w4.heap.size, 0, none⟩), .int .i64 (l.length : Nat)]) (by simp)).alloc (.cells #[.slice none 0 0, .slice none 0 0, .slice (some ⟨g, 0, none⟩) 2 2] 55))
      have hk5 := (((hkt.set (p := ⟨t, 0, none⟩) (.inl (by simp)) (.pointer (some ⟨x.b, 0, none⟩))).set (p := ⟨t, 0, none⟩) (.inl (by simp)) (.pointer (some ⟨w4.heap.size, 0, none⟩))).alloc (.cells #[.slice none 0 0, .slice none 0 0, .slice (some ⟨g, 0, none⟩) 2 2] 55))
      refine ⟨?_, FIN.out _ _ hk5 hN5 hB5 (HLN.out 0 (by simp)).symm⟩
      rw [← HNW.out]
      rfl
    · go_wp2_with fail
      go_ret
      have hN5 := Blk.fresh_at (((w4.setCell ⟨t, 0, none⟩ (.pointer (some ⟨x.b, 0, none⟩))).setCell ⟨t, 0, none⟩ (.pointer (some ⟨w4.heap.size, 0, none⟩))).setCell ⟨t, 1, none⟩ (.int .i64 ((l.length : Int) + 1))) 55 #[.slice none 0 0, .slice none 0 0, .slice (some ⟨g, 0, none⟩) 2 2] (n := w4.heap.size) (by simp)
      have hB5 := (((((hB4.put 0 (.pointer (some ⟨x.b, 0, none⟩))).put 0 (.pointer (some ⟨w4.heap.size, 0, none⟩))).put 1 (.int .i64 ((l.length : Int) + 1))).eq (cs' := #[.pointer (some ⟨w4.heap.size, 0, none⟩), .int .i64 ((l.length + 1) : Nat)]) (by simp)).alloc (.cells #[.slice none 0 0, .slice none 0 0, .slice (some ⟨g, 0, none⟩) 2 2] 55))
      have hk5 := ((((hkt.set (p := ⟨t, 0, none⟩) (.inl (by simp)) (.pointer (some ⟨x.b, 0, none⟩))).set (p := ⟨t, 0, none⟩) (.inl (by simp)) (.pointer (some ⟨w4.heap.size, 0, none⟩))).set (p := ⟨t, 1, none⟩) (.inl (by simp)) (.int .i64 ((l.length : Int) + 1))).alloc (.cells #[.slice none 0 0, .slice none 0 0, .slice (some ⟨g, 0, none⟩) 2 2] 55))
      refine ⟨?_, FIN.out _ _ hk5 hN5 hB5 (HLN2.out 0 (by simp)).symm⟩
      rw [← HNW.out]
      rfl
end Go.Proofs.YtknnhnpcgefchaaDoor
