/- A tree's nodes: del, of an inner one. Printed by tools/genTr26.py. -/
import Derived.Test.YtknnhnpcgefchaaDoorTr25

namespace Go.Proofs.YtknnhnpcgefchaaDoor
open Go.RowKit Go.Lib

theorem ptrs_set (cs : List Nd) (i : Nat) (c : Nd) : ptrs (cs.set i c) = (ptrs cs).set i (.pointer (some ⟨c.b, 0, none⟩)) := by simp [ptrs, List.map_set]
theorem set_split {α : Type} {cs : List α} {i : Nat} {c c' : α} (h : cs[i]? = some c) : cs.set i c' = cs.take i ++ [c'] ++ cs.drop (i + 1) := by
  have hil := (List.getElem?_eq_some_iff.1 h).1
  rw [List.set_eq_take_append_cons_drop, if_pos hil]
  simp
/-- one child lost a key -/
theorem del_ahd {cs : List Nd} {i : Nat} {c c' : Nd} {k f : Bs} (hah : cs.Pairwise Ahd) (hci : cs[i]? = some c) (hhd : cs.head?.map Nd.f = some f) (hf : c'.f = c.f) (hl : c'.l = del k c.l) (hne : c'.l ≠ []) (hord : ∀ p ∈ c.l, ltB p.1 c.f = false)
    (s1 : ∀ p ∈ flat (cs.take i), ltB p.1 k = true) (s2 : ∀ p ∈ flat (cs.drop (i + 1)), ltB k p.1 = true) (s3 : flat cs = flat (cs.take i) ++ c.l ++ flat (cs.drop (i + 1))) :
    (cs.set i c').Pairwise Ahd ∧ (cs.set i c').head?.map Nd.f = some f ∧ flat (cs.set i c') = del k (flat cs) := by
  have hsp := mid_split hci
  have h2 := hah
  rw [hsp] at h2
  obtain ⟨a1, a2⟩ := mid_ahd (parts := [c']) h2 (by simp) (by simp [hf]) (by simp) (fun p hp => by simp [flat] at hp ⊢; rw [hl] at hp; exact del_mem hp) (fun y hy => by
    simp at hy
    subst hy
    exact ⟨hne, fun p hp => by rw [hl] at hp; rw [hf]; exact hord p (del_mem hp)⟩)
  rw [← hsp] at a2
  rw [set_split hci]
  refine ⟨a1, by rw [a2]; exact hhd, ?_⟩
  rw [s3, del_mid s1 s2, flat_app, flat_app]
  simp [flat, hl]

/-- the new node -/
theorem del_fin {w w' : World} {F : Nat → Prop} {d m nb : Nat} {f : Bs} {l : List KV} {k : Bs} {fo ao : Option Addr} {fc ca n : Nat} {cs2 : List Nd} (hk : Keeps [] w w') (hX : Blk w' nb 55 #[.slice fo f.length fc, .slice none 0 0, .slice ao n ca]) (hn : n = cs2.length) (hnb : w.heap.size ≤ nb)
    (hf : Rb w fo fc f) (hff : Fr F fo (bys f)) (hfl : f.length ≤ 1000000) (hS : Sl w' 1 ao n ca (ptrs cs2)) (hFr : Fr (Grown F w) ao (ptrs cs2)) (hcs : ∀ x ∈ cs2, NdAt w' (Grown F w) d 4 16 x.b x.f x.l) (hflat : flat cs2 = del k l) (hah : cs2.Pairwise Ahd) (hhd : cs2.head?.map Nd.f = some f) (hm : m - 1 ≤ cs2.length) (hM : cs2.length ≤ 16) :
    DelPost w F (d + 1) m f l k (.returned (.pointer (some ⟨nb, 0, none⟩))) w' := by
  subst hn
  exact ⟨nb, rfl, ⟨fo, fc, none, 0, ao, ca, cs2, hX, .inr hnb, hf.keep0 hk, hff.mono hf (fun _ h _ => .inl h), Sl.none _ _, hS, hFr, hcs, hflat, hah, hhd, hm, hM, hfl⟩, hk⟩

set_option maxRecDepth 100000 in
set_option maxHeartbeats 8000000 in
theorem ndel1 {d : Nat} (IH : ∀ (w : World) (F : Nat → Prop) (m b : Nat) (f : Bs) (l : List KV) (ko : Option Addr) (kc : Nat) (k : Bs), NdAt w F d m 16 b f l → Rb w ko kc k → has k l = true → (d = 0 ∨ 2 ≤ m) → Calls Tryd.prog 22 #[.pointer (some ⟨b, 0, none⟩), .slice ko k.length kc] w fun e w' => DelPost w F d m f l k e w')
    {w : World} {F : Nat → Prop} {m b : Nat} {f : Bs} {l : List KV} {ko : Option Addr} {kc : Nat} {k : Bs} (h : NdAt w F (d + 1) m 16 b f l) (hk : Rb w ko kc k) (hh : has k l = true) (hm2 : 2 ≤ m) :
    Calls Tryd.prog 22 #[.pointer (some ⟨b, 0, none⟩), .slice ko k.length kc] w fun e w' => DelPost w F (d + 1) m f l k e w' := by
  have HIH := Lib.hid IH
  obtain ⟨fo, fc, po, pc, co, cc, cs, hB, hb, hf, hff, hS0, hS, hfc, hcs, hfl0, hah, hhd, hm0, hM2, hfl⟩ := h
  clear IH
  have hne : cs ≠ [] := by rintro rfl; simp at hhd
  have z0 : (cs.length == 0) = false := by simpa using hne
  have hcap := hS.cap
  obtain ⟨bb, o, rfl⟩ := hS.at (by omega)
  have hlf := nleaf hB
  rw [z0] at hlf
  have hl := hB.lt
  have c0 : w.cell? ⟨b, 0, none⟩ = some (.slice fo f.length fc) := hB.cell 0
  have c2 : w.cell? ⟨b, 2, none⟩ = some (.slice (some ⟨bb, o, none⟩) cs.length cc) := hB.cell 2
  go_enter Tryd.func22, Tryd.ntmps22
  go_wp2_with fail
  refine hlf.mono ?_
  rintro e w1 ⟨rfl, hw⟩
  obtain rfl := hw.symm
  clear hlf
  go_wp2_with fail
  refine (nchild hB hS hcs hah hne (by omega) hk).mono ?_
  rintro e w1 ⟨i, c, rfl, hci, hor, hup, hk1⟩
  have hil := (List.getElem?_eq_some_iff.1 hci).1
  have hcm := List.mem_of_getElem? hci
  obtain ⟨s1, s2, s3⟩ := child_sides hah (fun x hx => (hcs x hx).ord.2) hci hor hup
  have hhc : has k c.l = true := by rw [← hfl0, s3, has_mid s1 s2] at hh; exact hh
  have SD := Lib.hid (And.intro s1 (And.intro s2 s3))
  have HCI := Lib.hid hci
  have c2' := hk1.cellSome c2 (by simp)
  clear c2 hor hup s1 s2 s3 hh
  have p0 : (0 : Int) ≤ (i : Int) := by omega
  have p1 : (i : Int) < (cs.length : Int) := by omega
  have hl1 := Nat.lt_of_lt_of_le hl hk1.size
  go_wp2_with fail
  refine (cloneN (some ⟨bb, o, none⟩) cs.length cc (ptrs cs) w1 (hS.keep0 hk1) (by omega)).mono ?_
  rintro e w2 ⟨ao, ca, rfl, hO, hk2⟩
  have hk02 := hk1.trans hk2
  obtain ⟨g, cur, rfl, hNg, hBg, hcsz, hnc, hcm2, htk⟩ := ownsRow_blk hO (by omega) (by decide)
  have hgN : w.heap.size ≤ g := Nat.le_trans hk1.size hNg
  have cg : w2.cell? ⟨g, i, none⟩ = some (.pointer (some ⟨c.b, 0, none⟩)) := by
    have h1 : (ptrs cs)[i]? = some (.pointer (some ⟨c.b, 0, none⟩)) := by simp [ptrs, hci]
    rw [← htk, List.getElem?_take, if_pos (by omega)] at h1
    rw [hBg.cell]
    simpa using h1
  clear c2' hci hO
  have hcF := ((hcs c hcm).mono (F' := fun x => F x ∧ x < w.heap.size) (fun x hx hlt => ⟨hx, hlt⟩)).keep0 hk02
  go_wp2_with fail
  refine (HIH.out w2 _ 4 c.b c.f c.l ko kc k hcF (hk.keep0 hk02) hhc (.inr (by omega))).mono ?_
  rintro e w3 ⟨nb, rfl, hN3, hk3⟩
  clear HIH hcF
  obtain ⟨n3, hn3, hn16, hN3⟩ := hN3.count
  have hg2 := hBg.lt
  replace hBg := hBg.keep hk3 (by simp)
  replace cg := hk3.cellSome cg (by simp)
  have hgf := hBg.free
  have hgl := hBg.lt
  have hgc : i < cur.size := by omega
  go_upto_region 7 with (fail)
  have hB4 := hBg.put i (.pointer (some ⟨nb, 0, none⟩))
  have hk34 := (Keeps.refl [g] w3).set (p := ⟨g, i, none⟩) (.inl (by simp)) (.pointer (some ⟨nb, 0, none⟩))
  generalize World.setCell w3 _ _ = w4 at *
  obtain ⟨c', hc'⟩ : ∃ c' : Nd, c' = ⟨nb, c.f, del k c.l⟩ := ⟨_, rfl⟩
  have e1 : c'.b = nb := by rw [hc']
  have e2 : c'.f = c.f := by rw [hc']
  have e3 : c'.l = del k c.l := by rw [hc']
  clear hc'
  obtain ⟨F2, hF2⟩ : ∃ F2, F2 = Grown (fun x => F x ∧ x < w.heap.size) w2 := ⟨_, rfl⟩
  rw [← hF2, ← e1, ← e2, ← e3] at hN3
  rw [← e1] at hB4
  have hF2g : ¬ F2 g := fun h => by
    rw [hF2] at h
    rcases h with h | h
    · omega
    · omega
  have hFF2 : ∀ x, F x → x < w.heap.size → F2 x := fun x h hlt => by rw [hF2]; exact .inl ⟨h, hlt⟩
  have hF2F : ∀ x, F2 x → Grown F w x := fun x h => by
    rw [hF2] at h
    rcases h with h | h
    · exact .inl h.1
    · exact .inr (Nat.le_trans hk02.size h)
  have hgk : ∀ x ∈ [g], ¬ F2 x := fun x hx => by simp at hx; subst hx; exact hF2g
  have hN4 := hN3.keep hk34 hgk
  have hcs4 : ∀ x ∈ cs, NdAt w4 F2 d 4 16 x.b x.f x.l := fun x hx => (((hcs x hx).mono hFF2).keep0 (hk02.trans hk3)).keep hk34 hgk
  have hk04 : Keeps [] w w4 := (hk02.trans hk3).step hk34 (fun x hx => by simp at hx; subst hx; exact .inr hgN)
  obtain ⟨s1, s2, s3⟩ := SD.out
  obtain ⟨b1, b2, b3⟩ := del_ahd hah HCI.out hhd e2 e3 (hN4.ne (by omega)) (hcs c hcm).ord.2 s1 s2 s3
  rw [hfl0] at b3
  clear s1 s2 s3
  have hall : ∀ z ∈ cs.set i c', NdAt w4 F2 d 3 16 z.b z.f z.l := fun z hz => by
    rcases List.mem_or_eq_of_mem_set hz with hz | rfl
    · exact (hcs4 z hz).more (by omega) (Nat.le_refl _)
    · exact hN4.more hn3 hn16
  have hln : (cs.set i c').length = cs.length := List.length_set
  obtain ⟨cs1, hcs1⟩ : ∃ cs1, cs1 = cs.set i c' := ⟨_, rfl⟩
  have htk1 : (cur.setIfInBounds i (.pointer (some ⟨c'.b, 0, none⟩))).toList.take (cs.length * 1) = ptrs cs1 := by
    rw [Array.toList_setIfInBounds, List.take_set, htk, hcs1, ptrs_set]
  have hcell : ∀ j x, cs1[j]? = some x → w4.cell? ⟨g, j, none⟩ = some (.pointer (some ⟨x.b, 0, none⟩)) := fun j x hx => by
    have h1 : (ptrs cs1)[j]? = some (.pointer (some ⟨x.b, 0, none⟩)) := by simp [ptrs, hx]
    have hjl := (List.getElem?_eq_some_iff.1 hx).1
    rw [hcs1, hln] at hjl
    rw [← htk1, List.getElem?_take, if_pos (by omega)] at h1
    rw [hB4.cell, ← Array.getElem?_toList]
    exact h1
  have hO4 := hB4.owns (N := w.heap.size) (sz := 1) (n := cs.length) (c := ca) (xs := ptrs cs1) hgN (by rw [Array.size_setIfInBounds]; exact hcsz) hnc hcm2 htk1
  have cg4 : w4.cell? ⟨g, i, none⟩ = some (.pointer (some ⟨c'.b, 0, none⟩)) := hcell i c' (by rw [hcs1]; simp [hil])
  have B1 := Lib.hid b1
  have B2 := Lib.hid b2
  have B3 := Lib.hid b3
  have HLN := Lib.hid hln
  have HALL := Lib.hid hall
  have HCELL := Lib.hid hcell
  have HCS1 := Lib.hid hcs1
  have HF2 := Lib.hid (And.intro hFF2 hF2F)
  have HTK := Lib.hid htk1
  clear hgf hgl hB4 hgc b1 b2 b3 hln hall hcell hcs1 htk1 htk hcsz hF2 hFF2 hF2F e1 e2 e3 cg hBg c0 hN3
  have hlg : g < w4.heap.size := block_lt_of_cell cg4
  go_wp2_with fail
  refine (nsize_n hN4).mono ?_
  rintro e w5 ⟨rfl, hk5⟩
  have hk05 := hk04.trans hk5
  have c0 : w5.cell? ⟨b, 0, none⟩ = some (.slice fo f.length fc) := (hB.keep hk05 (by simp)).cell 0
  have hbl5 := (hB.keep hk05 (by simp)).lt
  by_cases h4 : n3 < 4
  · have n1 : (n3 : Int) < 4 := by omega
    have n2 : (1 : Int) < (cs.length : Int) := by omega
    obtain ⟨j2, hj2⟩ : ∃ j2, cs.length = j2 + 2 := ⟨cs.length - 2, by omega⟩
    have q6 : IntKind.i64.wrap ((cs.length : Int) - 2) = (j2 : Int) := by rw [IntWalk.i64_in _ (by omega)]; omega
    have HJ2 := Lib.hid hj2
    rcases Nat.lt_or_ge j2 i with hij | hij
    · have n3' : (j2 : Int) < (i : Int) := by omega
      have n4 : ¬ ((i : Int) ≤ (j2 : Int)) := by omega
      have n5 : ¬ ((i : Int) < (j2 : Int)) := by omega
      have n6 : (j2 : Int) ≤ (i : Int) := by omega
      have jl : j2 + 1 < cs.length := by omega
      have ji : j2 ≤ i := by omega
      have ij : i < j2 + 2 := by omega
      clear hj2
      obtain ⟨x, hx⟩ : ∃ x, cs1[j2]? = some x := ⟨_, List.getElem?_eq_getElem (by rw [HCS1.out, HLN.out]; omega)⟩
      obtain ⟨y, hy⟩ : ∃ y, cs1[j2 + 1]? = some y := ⟨_, List.getElem?_eq_getElem (by rw [HCS1.out, HLN.out]; omega)⟩
      have cx : w5.cell? ⟨g, j2, none⟩ = some (.pointer (some ⟨x.b, 0, none⟩)) := hk5.cellSome (HCELL.out j2 x hx) (by simp)
      have cy : w5.cell? ⟨g, j2 + 1, none⟩ = some (.pointer (some ⟨y.b, 0, none⟩)) := hk5.cellSome (HCELL.out (j2 + 1) y hy) (by simp)
      have hxy : Ahd x y := by
        have := B1.out
        rw [← HCS1.out] at this
        obtain ⟨hl1, rfl⟩ := List.getElem?_eq_some_iff.1 hx
        obtain ⟨hl2, rfl⟩ := List.getElem?_eq_some_iff.1 hy
        exact List.pairwise_iff_getElem.1 this j2 (j2 + 1) hl1 hl2 (by omega)
      have hxm : x ∈ cs.set i c' := by rw [← HCS1.out]; exact List.mem_of_getElem? hx
      have hym : y ∈ cs.set i c' := by rw [← HCS1.out]; exact List.mem_of_getElem? hy
      have hxn := (HALL.out x hxm).keep0 hk5
      have hyn := (HALL.out y hym).keep0 hk5
      have HX := Lib.hid (And.intro hx hy)
      clear hx hy
      have q7 : IntKind.i64.wrap ((j2 : Int) + 2) = (j2 : Int) + 2 := IntWalk.i64_in _ (by omega)
      have q8 : IntKind.i64.wrap ((j2 : Int) + 1) = (j2 : Int) + 1 := IntWalk.i64_in _ (by omega)
      have r0 : (0 : Int) ≤ (j2 : Int) := by omega
      have r1 : (j2 : Int) < (cs.length : Int) := by omega
      have r2 : (0 : Int) ≤ (j2 : Int) + 1 := by omega
      have r3 : (j2 : Int) + 1 < (cs.length : Int) := by omega
      go_upto_region 9 with (fail)
      have hkd := (Keeps.refl [] w5).drew
      refine startU ([] : List (Nat × (World → Prop))) (by kernel_rfl) ?_
      generalize w5.drew = w6 at *
      replace cx := hkd.cellSome cx (by simp)
      replace cy := hkd.cellSome cy (by simp)
      have hSw : ∀ q ∈ ([] : List (Nat × (World → Prop))), q.2 w6 := fun q hq => by cases hq
      refine takeU (i := 0) (v := ?_) rfl (by kernel_rfl) (fun _ _ _ h => h) (Or.inl ⟨by rfl, fun w0 hw0 => ?_⟩) (fun p hp _ => hSw p hp) ?_
      rotate_left
      · simp [Reads] at hw0
        go_simp
        try with_reducible rfl
      try go_simp
      refine takeU (i := 1) (v := ?_) rfl (by kernel_rfl) (fun _ _ _ h => h) (Or.inl ⟨by rfl, fun w0 hw0 => ?_⟩) (fun p hp _ => hSw p hp) ?_
      rotate_left
      · simp [Reads] at hw0
        go_simp
        try with_reducible rfl
      try go_simp
      refine takeU (i := 2) (v := ?_) rfl (by kernel_rfl) (fun _ _ _ h => h) (Or.inl ⟨by rfl, fun w0 hw0 => ?_⟩) (fun p hp _ => hSw p hp) ?_
      rotate_left
      · simp [Reads] at hw0
        go_simp
        try with_reducible rfl
      try go_simp
      refine takeU (i := 3) (v := ?_) rfl (by kernel_rfl) (fun _ _ _ h => h) (Or.inl ⟨by rfl, fun w0 hw0 => ?_⟩) (fun p hp _ => hSw p hp) ?_
      rotate_left
      · simp [Reads] at hw0
        go_simp
        try with_reducible rfl
      try go_simp
      refine takeU (i := 4) (v := ?_) rfl (by kernel_rfl) (fun _ _ _ h => h) (Or.inl ⟨by rfl, fun w0 hw0 => ?_⟩) (fun p hp _ => hSw p hp) ?_
      rotate_left
      · simp [Reads] at hw0
        go_simp
        try with_reducible rfl
      try go_simp
      refine takeU (i := 5) (v := ?_) rfl (by kernel_rfl) (fun _ _ _ h => h) (Or.inl ⟨by rfl, fun w0 hw0 => ?_⟩) (fun p hp _ => hSw p hp) ?_
      rotate_left
      · simp [Reads] at hw0
        go_simp
        try with_reducible rfl
      try go_simp
      refine takeU (i := 6) (v := ?_) rfl (by kernel_rfl) (fun _ _ _ h => h) (Or.inl ⟨by rfl, fun w0 hw0 => ?_⟩) (fun p hp _ => hSw p hp) ?_
      rotate_left
      · simp [Reads] at hw0
        go_simp
        try with_reducible rfl
      try go_simp
      refine takeU (i := 8) (v := ?_) rfl (by kernel_rfl) (fun _ _ _ h => h) (Or.inl ⟨by rfl, fun w0 hw0 => ?_⟩) (fun p hp _ => hSw p hp) ?_
      rotate_left
      · simp [Reads] at hw0
        go_simp
        try with_reducible rfl
      try go_simp
      refine takeU (i := 9) (v := ?_) rfl (by kernel_rfl) (fun _ _ _ h => h) (Or.inl ⟨by rfl, fun w0 hw0 => ?_⟩) (fun p hp _ => hSw p hp) ?_
      rotate_left
      · simp [Reads] at hw0
        go_simp
        try with_reducible rfl
      try go_simp
      refine takeU (i := 10) (v := ?_) rfl (by kernel_rfl) (fun _ _ _ h => h) (Or.inl ⟨by rfl, fun w0 hw0 => ?_⟩) (fun p hp _ => hSw p hp) ?_
      rotate_left
      · simp [Reads] at hw0
        go_simp
        try with_reducible rfl
      try go_simp
      refine takeU (i := 11) (v := ?_) rfl (by kernel_rfl) (fun _ _ _ h => h) (Or.inl ⟨by rfl, fun w0 hw0 => ?_⟩) (fun p hp _ => hSw p hp) ?_
      rotate_left
      · simp [Reads] at hw0
        go_simp
        try with_reducible rfl
      try go_simp
      clear hSw
      refine twoU (i := 7) (j := 12) rfl rfl (by kernel_rfl) (fun K hK => ?_) (fun K hK => ?_)
      · go_simp
        refine hK _ _ (fun q hq _ _ => by cases hq) ?_
        clear hK K
        try go_simp
        refine oneU (i := 12) rfl (by kernel_rfl) (fun K hK => ?_)
        go_simp
        refine hK _ _ (fun q hq _ _ => by cases hq) ?_
        clear hK K
        try go_simp
        clear cx cy
        refine oneU (i := 13) rfl (by kernel_rfl) (fun K hK => ?_)
        rw [if_pos (show Region.wanted _ _ = true from rfl)]
        go_wp2_with fail
        refine (njoined (hxn.keep0 hkd) (hyn.keep0 hkd) hxy (by omega)).mono ?_
        rintro e w7 ⟨g2, parts, rfl, hk7, hP⟩
        have hk57 := hkd.trans hk7
        simp only []
        refine hK _ _ (fun q hq _ _ => by cases hq) ?_
        clear hK K
        try go_simp
        have hk47 := hk5.trans hk57
        have hk07 := hk04.trans hk47
        have hpl : 1 ≤ parts.length ∧ parts.length ≤ 2 := by rcases hP.len with h | h <;> omega
        have hs46 := (hk5.trans hkd).size
        have hg2 : g2 ≠ g := by have := hP.new; omega
        have HRP := repN w.heap.size (some ⟨g, 0, none⟩) cs.length ca j2 (j2 + 2) parts.length g2 (ptrs cs1) (ptrs parts).toArray w7 (own_keep hO4 hk47 (by simp)) (ptrs_one _) (by omega) (by omega) (by omega) (by omega) (by omega) hP.blk (by simp) (by simpa using ptrs_one parts) (fun x hx => by simp at hx; subst hx; exact hg2) hk07.size
        rw [show ((j2 + 2 : Nat) : Int) = (j2 : Int) + 2 from rfl] at HRP
        refine oneU (i := 14) rfl (by kernel_rfl) (fun K hK => ?_)
        rw [if_pos (show Region.wanted _ _ = true from rfl)]
        go_wp2_with fail
        refine HRP.mono ?_
        rintro e w8 ⟨ao2, ca2, rfl, hO8, _, hk8⟩
        clear HRP
        have hk8g : Keeps [g] w7 w8 := hk8.mono (fun x hx => by simpa using hx)
        have hk08 : Keeps [] w w8 := hk07.step hk8g (fun x hx => by simp at hx; subst hx; exact .inr hgN)
        simp only []
        refine hK _ _ (fun q hq _ _ => by cases hq) ?_
        clear hK K
        try go_simp
        have hSw : ∀ q ∈ ([] : List (Nat × (World → Prop))), q.2 w8 := fun q hq => by cases hq
        refine takeU (i := 15) (v := ?_) rfl (by kernel_rfl) (fun _ _ _ h => h) (Or.inl ⟨by rfl, fun w0 hw0 => ?_⟩) (fun p hp _ => hSw p hp) ?_
        rotate_left
        · simp [Reads] at hw0
          go_simp
          try with_reducible rfl
        try go_simp
        clear hSw
        refine doneU (by kernel_rfl) ?_
        have hpt : (ptrs cs1).take j2 ++ (ptrs parts).toArray.toList ++ (ptrs cs1).drop (j2 + 2) = ptrs (cs1.take j2 ++ parts ++ cs1.drop (j2 + 2)) := by
          rw [ptrs_take, ptrs_drop, ptrs_app, ptrs_app]
        rw [hpt] at hO8
        have hcl : cs1.length = cs.length := by rw [HCS1.out]; exact HLN.out
        have hlen2 : j2 + parts.length + (cs.length - (j2 + 2)) = (cs1.take j2 ++ parts ++ cs1.drop (j2 + 2)).length := by
          simp only [List.length_append, List.length_take, List.length_drop]
          omega
        obtain ⟨n2, hn2⟩ : ∃ n2, n2 = j2 + parts.length + (cs.length - (j2 + 2)) := ⟨_, rfl⟩
        rw [← hn2] at hO8 ⊢
        have HN2 := Lib.hid (hn2.trans hlen2)
        have HN2b := Lib.hid hn2
        clear hn2 hlen2 hpt hcl
        have c0' : w8.cell? ⟨b, 0, none⟩ = some (.slice fo f.length fc) := (hB.keep hk08 (by simp)).cell 0
        have hbl8 := (hB.keep hk08 (by simp)).lt
        have bF := built_N fo ao2 f.length fc n2 ca2
        clear c0 hbl5
        go_wp2_with fail
        go_ret
        have hkN := hk08.alloc (.cells #[.slice fo f.length fc, .slice none 0 0, .slice ao2 n2 ca2] 55)
        have hk8N := (Keeps.refl [] w8).alloc (.cells #[.slice fo f.length fc, .slice none 0 0, .slice ao2 n2 ca2] 55)
        have hk7N := hk8g.trans hk8N.of_nil
        have hO9 := own_keep hO8 hk8N (by simp)
        have hsp := two_split HX.out.1 HX.out.2
        have hahs := B1.out
        rw [← HCS1.out, hsp] at hahs
        have hpn : ∀ z ∈ parts, NdAt w7 (Grown F2 w6) d 4 16 z.b z.f z.l := fun z hz => by
          have := hP.at_ z hz
          rwa [ite_self] at this
        obtain ⟨a1, a2⟩ := mid_ahd (parts := parts) hahs (by simp) (by rw [hP.head]; rfl) hP.ahd (fun p hp => by rw [hP.flat] at hp; simpa [flat] using hp) (fun z hz => ⟨(hpn z hz).ne (by omega), (hpn z hz).ord.2⟩)
        rw [← hsp] at a2
        have a3 : flat (cs1.take j2 ++ parts ++ cs1.drop (j2 + 2)) = flat cs1 := by
          conv => rhs; rw [hsp]
          rw [flat_app, flat_app, flat_app, flat_app, hP.flat]
          simp [flat]
        have t1 : cs1.take j2 = cs.take j2 := by rw [HCS1.out]; exact List.take_set_of_le ji
        have t2 : cs1.drop (j2 + 2) = cs.drop (j2 + 2) := by rw [HCS1.out]; exact List.drop_set_of_lt ij
        have hold : ∀ z ∈ cs, NdAt (w8.alloc (.cells #[.slice fo f.length fc, .slice none 0 0, .slice ao2 n2 ca2] 55)) (Grown F w) d 4 16 z.b z.f z.l := fun z hz => (((hcs4 z hz).keep0 hk47).keep hk7N hgk).mono (fun y hy _ => HF2.out.2 y hy)
        refine del_fin (cs2 := cs1.take j2 ++ parts ++ cs1.drop (j2 + 2)) hkN (Blk.fresh w8 55 _) HN2.out hk08.size hf hff hfl (own_read hO9 (ptrs_one _)) (fun ad e _ => ?_) (fun z hz => ?_) (by rw [a3, HCS1.out]; exact B3.out) a1 (by rw [a2, HCS1.out]; exact B2.out) (by rw [← HN2.out, HN2b.out]; omega) (by rw [← HN2.out, HN2b.out]; omega)
        · subst e
          exact .inr (own_lt hO9 ad.block (by simp)).1
        · rcases List.mem_append.1 hz with hz | hz
          · rcases List.mem_append.1 hz with hz | hz
            · rw [t1] at hz
              exact hold z (List.mem_of_mem_take hz)
            · refine ((hpn z hz).keep hk7N (fun y hy hF => ?_)).mono (fun y hy _ => ?_)
              · rcases hF with hF | hF
                · exact hgk y hy hF
                · simp at hy
                  omega
              · rcases hy with hy | hy
                · exact HF2.out.2 y hy
                · exact .inr (Nat.le_trans (hk04.trans (hk5.trans hkd)).size hy)
          · rw [t2] at hz
            exact hold z (List.mem_of_mem_drop hz)
      · go_simp
        refine hK _ _ (fun q hq _ _ => by cases hq) ?_
        clear hK K
        try go_simp
        refine oneU (i := 7) rfl (by kernel_rfl) (fun K hK => ?_)
        go_simp
        refine hK _ _ (fun q hq _ _ => by cases hq) ?_
        clear hK K
        try go_simp
        clear cx cy
        refine oneU (i := 13) rfl (by kernel_rfl) (fun K hK => ?_)
        rw [if_pos (show Region.wanted _ _ = true from rfl)]
        go_wp2_with fail
        refine (njoined (hxn.keep0 hkd) (hyn.keep0 hkd) hxy (by omega)).mono ?_
        rintro e w7 ⟨g2, parts, rfl, hk7, hP⟩
        have hk57 := hkd.trans hk7
        simp only []
        refine hK _ _ (fun q hq _ _ => by cases hq) ?_
        clear hK K
        try go_simp
        have hk47 := hk5.trans hk57
        have hk07 := hk04.trans hk47
        have hpl : 1 ≤ parts.length ∧ parts.length ≤ 2 := by rcases hP.len with h | h <;> omega
        have hs46 := (hk5.trans hkd).size
        have hg2 : g2 ≠ g := by have := hP.new; omega
        have HRP := repN w.heap.size (some ⟨g, 0, none⟩) cs.length ca j2 (j2 + 2) parts.length g2 (ptrs cs1) (ptrs parts).toArray w7 (own_keep hO4 hk47 (by simp)) (ptrs_one _) (by omega) (by omega) (by omega) (by omega) (by omega) hP.blk (by simp) (by simpa using ptrs_one parts) (fun x hx => by simp at hx; subst hx; exact hg2) hk07.size
        rw [show ((j2 + 2 : Nat) : Int) = (j2 : Int) + 2 from rfl] at HRP
        refine oneU (i := 14) rfl (by kernel_rfl) (fun K hK => ?_)
        rw [if_pos (show Region.wanted _ _ = true from rfl)]
        go_wp2_with fail
        refine HRP.mono ?_
        rintro e w8 ⟨ao2, ca2, rfl, hO8, _, hk8⟩
        clear HRP
        have hk8g : Keeps [g] w7 w8 := hk8.mono (fun x hx => by simpa using hx)
        have hk08 : Keeps [] w w8 := hk07.step hk8g (fun x hx => by simp at hx; subst hx; exact .inr hgN)
        simp only []
        refine hK _ _ (fun q hq _ _ => by cases hq) ?_
        clear hK K
        try go_simp
        have hSw : ∀ q ∈ ([] : List (Nat × (World → Prop))), q.2 w8 := fun q hq => by cases hq
        refine takeU (i := 15) (v := ?_) rfl (by kernel_rfl) (fun _ _ _ h => h) (Or.inl ⟨by rfl, fun w0 hw0 => ?_⟩) (fun p hp _ => hSw p hp) ?_
        rotate_left
        · simp [Reads] at hw0
          go_simp
          try with_reducible rfl
        try go_simp
        clear hSw
        refine doneU (by kernel_rfl) ?_
        have hpt : (ptrs cs1).take j2 ++ (ptrs parts).toArray.toList ++ (ptrs cs1).drop (j2 + 2) = ptrs (cs1.take j2 ++ parts ++ cs1.drop (j2 + 2)) := by
          rw [ptrs_take, ptrs_drop, ptrs_app, ptrs_app]
        rw [hpt] at hO8
        have hcl : cs1.length = cs.length := by rw [HCS1.out]; exact HLN.out
        have hlen2 : j2 + parts.length + (cs.length - (j2 + 2)) = (cs1.take j2 ++ parts ++ cs1.drop (j2 + 2)).length := by
          simp only [List.length_append, List.length_take, List.length_drop]
          omega
        obtain ⟨n2, hn2⟩ : ∃ n2, n2 = j2 + parts.length + (cs.length - (j2 + 2)) := ⟨_, rfl⟩
        rw [← hn2] at hO8 ⊢
        have HN2 := Lib.hid (hn2.trans hlen2)
        have HN2b := Lib.hid hn2
        clear hn2 hlen2 hpt hcl
        have c0' : w8.cell? ⟨b, 0, none⟩ = some (.slice fo f.length fc) := (hB.keep hk08 (by simp)).cell 0
        have hbl8 := (hB.keep hk08 (by simp)).lt
        have bF := built_N fo ao2 f.length fc n2 ca2
        clear c0 hbl5
        go_wp2_with fail
        go_ret
        have hkN := hk08.alloc (.cells #[.slice fo f.length fc, .slice none 0 0, .slice ao2 n2 ca2] 55)
        have hk8N := (Keeps.refl [] w8).alloc (.cells #[.slice fo f.length fc, .slice none 0 0, .slice ao2 n2 ca2] 55)
        have hk7N := hk8g.trans hk8N.of_nil
        have hO9 := own_keep hO8 hk8N (by simp)
        have hsp := two_split HX.out.1 HX.out.2
        have hahs := B1.out
        rw [← HCS1.out, hsp] at hahs
        have hpn : ∀ z ∈ parts, NdAt w7 (Grown F2 w6) d 4 16 z.b z.f z.l := fun z hz => by
          have := hP.at_ z hz
          rwa [ite_self] at this
        obtain ⟨a1, a2⟩ := mid_ahd (parts := parts) hahs (by simp) (by rw [hP.head]; rfl) hP.ahd (fun p hp => by rw [hP.flat] at hp; simpa [flat] using hp) (fun z hz => ⟨(hpn z hz).ne (by omega), (hpn z hz).ord.2⟩)
        rw [← hsp] at a2
        have a3 : flat (cs1.take j2 ++ parts ++ cs1.drop (j2 + 2)) = flat cs1 := by
          conv => rhs; rw [hsp]
          rw [flat_app, flat_app, flat_app, flat_app, hP.flat]
          simp [flat]
        have t1 : cs1.take j2 = cs.take j2 := by rw [HCS1.out]; exact List.take_set_of_le ji
        have t2 : cs1.drop (j2 + 2) = cs.drop (j2 + 2) := by rw [HCS1.out]; exact List.drop_set_of_lt ij
        have hold : ∀ z ∈ cs, NdAt (w8.alloc (.cells #[.slice fo f.length fc, .slice none 0 0, .slice ao2 n2 ca2] 55)) (Grown F w) d 4 16 z.b z.f z.l := fun z hz => (((hcs4 z hz).keep0 hk47).keep hk7N hgk).mono (fun y hy _ => HF2.out.2 y hy)
        refine del_fin (cs2 := cs1.take j2 ++ parts ++ cs1.drop (j2 + 2)) hkN (Blk.fresh w8 55 _) HN2.out hk08.size hf hff hfl (own_read hO9 (ptrs_one _)) (fun ad e _ => ?_) (fun z hz => ?_) (by rw [a3, HCS1.out]; exact B3.out) a1 (by rw [a2, HCS1.out]; exact B2.out) (by rw [← HN2.out, HN2b.out]; omega) (by rw [← HN2.out, HN2b.out]; omega)
        · subst e
          exact .inr (own_lt hO9 ad.block (by simp)).1
        · rcases List.mem_append.1 hz with hz | hz
          · rcases List.mem_append.1 hz with hz | hz
            · rw [t1] at hz
              exact hold z (List.mem_of_mem_take hz)
            · refine ((hpn z hz).keep hk7N (fun y hy hF => ?_)).mono (fun y hy _ => ?_)
              · rcases hF with hF | hF
                · exact hgk y hy hF
                · simp at hy
                  omega
              · rcases hy with hy | hy
                · exact HF2.out.2 y hy
                · exact .inr (Nat.le_trans (hk04.trans (hk5.trans hkd)).size hy)
          · rw [t2] at hz
            exact hold z (List.mem_of_mem_drop hz)
    · have n6 : (i : Int) ≤ (j2 : Int) := by omega
      have n4 : ¬ ((j2 : Int) < (i : Int)) := by omega
      have jl : i + 1 < cs.length := by omega
      have ji : i ≤ i := Nat.le_refl _
      have ij : i < i + 2 := by omega
      clear hj2
      obtain ⟨x, hx⟩ : ∃ x, cs1[i]? = some x := ⟨_, List.getElem?_eq_getElem (by rw [HCS1.out, HLN.out]; omega)⟩
      obtain ⟨y, hy⟩ : ∃ y, cs1[i + 1]? = some y := ⟨_, List.getElem?_eq_getElem (by rw [HCS1.out, HLN.out]; omega)⟩
      have cx : w5.cell? ⟨g, i, none⟩ = some (.pointer (some ⟨x.b, 0, none⟩)) := hk5.cellSome (HCELL.out i x hx) (by simp)
      have cy : w5.cell? ⟨g, i + 1, none⟩ = some (.pointer (some ⟨y.b, 0, none⟩)) := hk5.cellSome (HCELL.out (i + 1) y hy) (by simp)
      have hxy : Ahd x y := by
        have := B1.out
        rw [← HCS1.out] at this
        obtain ⟨hl1, rfl⟩ := List.getElem?_eq_some_iff.1 hx
        obtain ⟨hl2, rfl⟩ := List.getElem?_eq_some_iff.1 hy
        exact List.pairwise_iff_getElem.1 this i (i + 1) hl1 hl2 (by omega)
      have hxm : x ∈ cs.set i c' := by rw [← HCS1.out]; exact List.mem_of_getElem? hx
      have hym : y ∈ cs.set i c' := by rw [← HCS1.out]; exact List.mem_of_getElem? hy
      have hxn := (HALL.out x hxm).keep0 hk5
      have hyn := (HALL.out y hym).keep0 hk5
      have HX := Lib.hid (And.intro hx hy)
      clear hx hy
      have q7 : IntKind.i64.wrap ((i : Int) + 2) = (i : Int) + 2 := IntWalk.i64_in _ (by omega)
      have q8 : IntKind.i64.wrap ((i : Int) + 1) = (i : Int) + 1 := IntWalk.i64_in _ (by omega)
      have r0 : (0 : Int) ≤ (i : Int) := by omega
      have r1 : (i : Int) < (cs.length : Int) := by omega
      have r2 : (0 : Int) ≤ (i : Int) + 1 := by omega
      have r3 : (i : Int) + 1 < (cs.length : Int) := by omega
      go_upto_region 9 with (fail)
      have hkd := (Keeps.refl [] w5).drew
      refine startU ([] : List (Nat × (World → Prop))) (by kernel_rfl) ?_
      generalize w5.drew = w6 at *
      replace cx := hkd.cellSome cx (by simp)
      replace cy := hkd.cellSome cy (by simp)
      have hSw : ∀ q ∈ ([] : List (Nat × (World → Prop))), q.2 w6 := fun q hq => by cases hq
      refine takeU (i := 0) (v := ?_) rfl (by kernel_rfl) (fun _ _ _ h => h) (Or.inl ⟨by rfl, fun w0 hw0 => ?_⟩) (fun p hp _ => hSw p hp) ?_
      rotate_left
      · simp [Reads] at hw0
        go_simp
        try with_reducible rfl
      try go_simp
      refine takeU (i := 1) (v := ?_) rfl (by kernel_rfl) (fun _ _ _ h => h) (Or.inl ⟨by rfl, fun w0 hw0 => ?_⟩) (fun p hp _ => hSw p hp) ?_
      rotate_left
      · simp [Reads] at hw0
        go_simp
        try with_reducible rfl
      try go_simp
      refine takeU (i := 2) (v := ?_) rfl (by kernel_rfl) (fun _ _ _ h => h) (Or.inl ⟨by rfl, fun w0 hw0 => ?_⟩) (fun p hp _ => hSw p hp) ?_
      rotate_left
      · simp [Reads] at hw0
        go_simp
        try with_reducible rfl
      try go_simp
      refine takeU (i := 3) (v := ?_) rfl (by kernel_rfl) (fun _ _ _ h => h) (Or.inl ⟨by rfl, fun w0 hw0 => ?_⟩) (fun p hp _ => hSw p hp) ?_
      rotate_left
      · simp [Reads] at hw0
        go_simp
        try with_reducible rfl
      try go_simp
      refine takeU (i := 4) (v := ?_) rfl (by kernel_rfl) (fun _ _ _ h => h) (Or.inl ⟨by rfl, fun w0 hw0 => ?_⟩) (fun p hp _ => hSw p hp) ?_
      rotate_left
      · simp [Reads] at hw0
        go_simp
        try with_reducible rfl
      try go_simp
      refine takeU (i := 5) (v := ?_) rfl (by kernel_rfl) (fun _ _ _ h => h) (Or.inl ⟨by rfl, fun w0 hw0 => ?_⟩) (fun p hp _ => hSw p hp) ?_
      rotate_left
      · simp [Reads] at hw0
        go_simp
        try with_reducible rfl
      try go_simp
      refine takeU (i := 6) (v := ?_) rfl (by kernel_rfl) (fun _ _ _ h => h) (Or.inl ⟨by rfl, fun w0 hw0 => ?_⟩) (fun p hp _ => hSw p hp) ?_
      rotate_left
      · simp [Reads] at hw0
        go_simp
        try with_reducible rfl
      try go_simp
      refine takeU (i := 8) (v := ?_) rfl (by kernel_rfl) (fun _ _ _ h => h) (Or.inl ⟨by rfl, fun w0 hw0 => ?_⟩) (fun p hp _ => hSw p hp) ?_
      rotate_left
      · simp [Reads] at hw0
        go_simp
        try with_reducible rfl
      try go_simp
      refine takeU (i := 9) (v := ?_) rfl (by kernel_rfl) (fun _ _ _ h => h) (Or.inl ⟨by rfl, fun w0 hw0 => ?_⟩) (fun p hp _ => hSw p hp) ?_
      rotate_left
      · simp [Reads] at hw0
        go_simp
        try with_reducible rfl
      try go_simp
      refine takeU (i := 10) (v := ?_) rfl (by kernel_rfl) (fun _ _ _ h => h) (Or.inl ⟨by rfl, fun w0 hw0 => ?_⟩) (fun p hp _ => hSw p hp) ?_
      rotate_left
      · simp [Reads] at hw0
        go_simp
        try with_reducible rfl
      try go_simp
      refine takeU (i := 11) (v := ?_) rfl (by kernel_rfl) (fun _ _ _ h => h) (Or.inl ⟨by rfl, fun w0 hw0 => ?_⟩) (fun p hp _ => hSw p hp) ?_
      rotate_left
      · simp [Reads] at hw0
        go_simp
        try with_reducible rfl
      try go_simp
      clear hSw
      refine twoU (i := 7) (j := 12) rfl rfl (by kernel_rfl) (fun K hK => ?_) (fun K hK => ?_)
      · go_simp
        refine hK _ _ (fun q hq _ _ => by cases hq) ?_
        clear hK K
        try go_simp
        refine oneU (i := 12) rfl (by kernel_rfl) (fun K hK => ?_)
        go_simp
        refine hK _ _ (fun q hq _ _ => by cases hq) ?_
        clear hK K
        try go_simp
        clear cx cy
        refine oneU (i := 13) rfl (by kernel_rfl) (fun K hK => ?_)
        rw [if_pos (show Region.wanted _ _ = true from rfl)]
        go_wp2_with fail
        refine (njoined (hxn.keep0 hkd) (hyn.keep0 hkd) hxy (by omega)).mono ?_
        rintro e w7 ⟨g2, parts, rfl, hk7, hP⟩
        have hk57 := hkd.trans hk7
        simp only []
        refine hK _ _ (fun q hq _ _ => by cases hq) ?_
        clear hK K
        try go_simp
        have hk47 := hk5.trans hk57
        have hk07 := hk04.trans hk47
        have hpl : 1 ≤ parts.length ∧ parts.length ≤ 2 := by rcases hP.len with h | h <;> omega
        have hs46 := (hk5.trans hkd).size
        have hg2 : g2 ≠ g := by have := hP.new; omega
        have HRP := repN w.heap.size (some ⟨g, 0, none⟩) cs.length ca i (i + 2) parts.length g2 (ptrs cs1) (ptrs parts).toArray w7 (own_keep hO4 hk47 (by simp)) (ptrs_one _) (by omega) (by omega) (by omega) (by omega) (by omega) hP.blk (by simp) (by simpa using ptrs_one parts) (fun x hx => by simp at hx; subst hx; exact hg2) hk07.size
        rw [show ((i + 2 : Nat) : Int) = (i : Int) + 2 from rfl] at HRP
        refine oneU (i := 14) rfl (by kernel_rfl) (fun K hK => ?_)
        rw [if_pos (show Region.wanted _ _ = true from rfl)]
        go_wp2_with fail
        refine HRP.mono ?_
        rintro e w8 ⟨ao2, ca2, rfl, hO8, _, hk8⟩
        clear HRP
        have hk8g : Keeps [g] w7 w8 := hk8.mono (fun x hx => by simpa using hx)
        have hk08 : Keeps [] w w8 := hk07.step hk8g (fun x hx => by simp at hx; subst hx; exact .inr hgN)
        simp only []
        refine hK _ _ (fun q hq _ _ => by cases hq) ?_
        clear hK K
        try go_simp
        have hSw : ∀ q ∈ ([] : List (Nat × (World → Prop))), q.2 w8 := fun q hq => by cases hq
        refine takeU (i := 15) (v := ?_) rfl (by kernel_rfl) (fun _ _ _ h => h) (Or.inl ⟨by rfl, fun w0 hw0 => ?_⟩) (fun p hp _ => hSw p hp) ?_
        rotate_left
        · simp [Reads] at hw0
          go_simp
          try with_reducible rfl
        try go_simp
        clear hSw
        refine doneU (by kernel_rfl) ?_
        have hpt : (ptrs cs1).take i ++ (ptrs parts).toArray.toList ++ (ptrs cs1).drop (i + 2) = ptrs (cs1.take i ++ parts ++ cs1.drop (i + 2)) := by
          rw [ptrs_take, ptrs_drop, ptrs_app, ptrs_app]
        rw [hpt] at hO8
        have hcl : cs1.length = cs.length := by rw [HCS1.out]; exact HLN.out
        have hlen2 : i + parts.length + (cs.length - (i + 2)) = (cs1.take i ++ parts ++ cs1.drop (i + 2)).length := by
          simp only [List.length_append, List.length_take, List.length_drop]
          omega
        obtain ⟨n2, hn2⟩ : ∃ n2, n2 = i + parts.length + (cs.length - (i + 2)) := ⟨_, rfl⟩
        rw [← hn2] at hO8 ⊢
        have HN2 := Lib.hid (hn2.trans hlen2)
        have HN2b := Lib.hid hn2
        clear hn2 hlen2 hpt hcl
        have c0' : w8.cell? ⟨b, 0, none⟩ = some (.slice fo f.length fc) := (hB.keep hk08 (by simp)).cell 0
        have hbl8 := (hB.keep hk08 (by simp)).lt
        have bF := built_N fo ao2 f.length fc n2 ca2
        clear c0 hbl5
        go_wp2_with fail
        go_ret
        have hkN := hk08.alloc (.cells #[.slice fo f.length fc, .slice none 0 0, .slice ao2 n2 ca2] 55)
        have hk8N := (Keeps.refl [] w8).alloc (.cells #[.slice fo f.length fc, .slice none 0 0, .slice ao2 n2 ca2] 55)
        have hk7N := hk8g.trans hk8N.of_nil
        have hO9 := own_keep hO8 hk8N (by simp)
        have hsp := two_split HX.out.1 HX.out.2
        have hahs := B1.out
        rw [← HCS1.out, hsp] at hahs
        have hpn : ∀ z ∈ parts, NdAt w7 (Grown F2 w6) d 4 16 z.b z.f z.l := fun z hz => by
          have := hP.at_ z hz
          rwa [ite_self] at this
        obtain ⟨a1, a2⟩ := mid_ahd (parts := parts) hahs (by simp) (by rw [hP.head]; rfl) hP.ahd (fun p hp => by rw [hP.flat] at hp; simpa [flat] using hp) (fun z hz => ⟨(hpn z hz).ne (by omega), (hpn z hz).ord.2⟩)
        rw [← hsp] at a2
        have a3 : flat (cs1.take i ++ parts ++ cs1.drop (i + 2)) = flat cs1 := by
          conv => rhs; rw [hsp]
          rw [flat_app, flat_app, flat_app, flat_app, hP.flat]
          simp [flat]
        have t1 : cs1.take i = cs.take i := by rw [HCS1.out]; exact List.take_set_of_le ji
        have t2 : cs1.drop (i + 2) = cs.drop (i + 2) := by rw [HCS1.out]; exact List.drop_set_of_lt ij
        have hold : ∀ z ∈ cs, NdAt (w8.alloc (.cells #[.slice fo f.length fc, .slice none 0 0, .slice ao2 n2 ca2] 55)) (Grown F w) d 4 16 z.b z.f z.l := fun z hz => (((hcs4 z hz).keep0 hk47).keep hk7N hgk).mono (fun y hy _ => HF2.out.2 y hy)
        refine del_fin (cs2 := cs1.take i ++ parts ++ cs1.drop (i + 2)) hkN (Blk.fresh w8 55 _) HN2.out hk08.size hf hff hfl (own_read hO9 (ptrs_one _)) (fun ad e _ => ?_) (fun z hz => ?_) (by rw [a3, HCS1.out]; exact B3.out) a1 (by rw [a2, HCS1.out]; exact B2.out) (by rw [← HN2.out, HN2b.out]; omega) (by rw [← HN2.out, HN2b.out]; omega)
        · subst e
          exact .inr (own_lt hO9 ad.block (by simp)).1
        · rcases List.mem_append.1 hz with hz | hz
          · rcases List.mem_append.1 hz with hz | hz
            · rw [t1] at hz
              exact hold z (List.mem_of_mem_take hz)
            · refine ((hpn z hz).keep hk7N (fun y hy hF => ?_)).mono (fun y hy _ => ?_)
              · rcases hF with hF | hF
                · exact hgk y hy hF
                · simp at hy
                  omega
              · rcases hy with hy | hy
                · exact HF2.out.2 y hy
                · exact .inr (Nat.le_trans (hk04.trans (hk5.trans hkd)).size hy)
          · rw [t2] at hz
            exact hold z (List.mem_of_mem_drop hz)
      · go_simp
        refine hK _ _ (fun q hq _ _ => by cases hq) ?_
        clear hK K
        try go_simp
        refine oneU (i := 7) rfl (by kernel_rfl) (fun K hK => ?_)
        go_simp
        refine hK _ _ (fun q hq _ _ => by cases hq) ?_
        clear hK K
        try go_simp
        clear cx cy
        refine oneU (i := 13) rfl (by kernel_rfl) (fun K hK => ?_)
        rw [if_pos (show Region.wanted _ _ = true from rfl)]
        go_wp2_with fail
        refine (njoined (hxn.keep0 hkd) (hyn.keep0 hkd) hxy (by omega)).mono ?_
        rintro e w7 ⟨g2, parts, rfl, hk7, hP⟩
        have hk57 := hkd.trans hk7
        simp only []
        refine hK _ _ (fun q hq _ _ => by cases hq) ?_
        clear hK K
        try go_simp
        have hk47 := hk5.trans hk57
        have hk07 := hk04.trans hk47
        have hpl : 1 ≤ parts.length ∧ parts.length ≤ 2 := by rcases hP.len with h | h <;> omega
        have hs46 := (hk5.trans hkd).size
        have hg2 : g2 ≠ g := by have := hP.new; omega
        have HRP := repN w.heap.size (some ⟨g, 0, none⟩) cs.length ca i (i + 2) parts.length g2 (ptrs cs1) (ptrs parts).toArray w7 (own_keep hO4 hk47 (by simp)) (ptrs_one _) (by omega) (by omega) (by omega) (by omega) (by omega) hP.blk (by simp) (by simpa using ptrs_one parts) (fun x hx => by simp at hx; subst hx; exact hg2) hk07.size
        rw [show ((i + 2 : Nat) : Int) = (i : Int) + 2 from rfl] at HRP
        refine oneU (i := 14) rfl (by kernel_rfl) (fun K hK => ?_)
        rw [if_pos (show Region.wanted _ _ = true from rfl)]
        go_wp2_with fail
        refine HRP.mono ?_
        rintro e w8 ⟨ao2, ca2, rfl, hO8, _, hk8⟩
        clear HRP
        have hk8g : Keeps [g] w7 w8 := hk8.mono (fun x hx => by simpa using hx)
        have hk08 : Keeps [] w w8 := hk07.step hk8g (fun x hx => by simp at hx; subst hx; exact .inr hgN)
        simp only []
        refine hK _ _ (fun q hq _ _ => by cases hq) ?_
        clear hK K
        try go_simp
        have hSw : ∀ q ∈ ([] : List (Nat × (World → Prop))), q.2 w8 := fun q hq => by cases hq
        refine takeU (i := 15) (v := ?_) rfl (by kernel_rfl) (fun _ _ _ h => h) (Or.inl ⟨by rfl, fun w0 hw0 => ?_⟩) (fun p hp _ => hSw p hp) ?_
        rotate_left
        · simp [Reads] at hw0
          go_simp
          try with_reducible rfl
        try go_simp
        clear hSw
        refine doneU (by kernel_rfl) ?_
        have hpt : (ptrs cs1).take i ++ (ptrs parts).toArray.toList ++ (ptrs cs1).drop (i + 2) = ptrs (cs1.take i ++ parts ++ cs1.drop (i + 2)) := by
          rw [ptrs_take, ptrs_drop, ptrs_app, ptrs_app]
        rw [hpt] at hO8
        have hcl : cs1.length = cs.length := by rw [HCS1.out]; exact HLN.out
        have hlen2 : i + parts.length + (cs.length - (i + 2)) = (cs1.take i ++ parts ++ cs1.drop (i + 2)).length := by
          simp only [List.length_append, List.length_take, List.length_drop]
          omega
        obtain ⟨n2, hn2⟩ : ∃ n2, n2 = i + parts.length + (cs.length - (i + 2)) := ⟨_, rfl⟩
        rw [← hn2] at hO8 ⊢
        have HN2 := Lib.hid (hn2.trans hlen2)
        have HN2b := Lib.hid hn2
        clear hn2 hlen2 hpt hcl
        have c0' : w8.cell? ⟨b, 0, none⟩ = some (.slice fo f.length fc) := (hB.keep hk08 (by simp)).cell 0
        have hbl8 := (hB.keep hk08 (by simp)).lt
        have bF := built_N fo ao2 f.length fc n2 ca2
        clear c0 hbl5
        go_wp2_with fail
        go_ret
        have hkN := hk08.alloc (.cells #[.slice fo f.length fc, .slice none 0 0, .slice ao2 n2 ca2] 55)
        have hk8N := (Keeps.refl [] w8).alloc (.cells #[.slice fo f.length fc, .slice none 0 0, .slice ao2 n2 ca2] 55)
        have hk7N := hk8g.trans hk8N.of_nil
        have hO9 := own_keep hO8 hk8N (by simp)
        have hsp := two_split HX.out.1 HX.out.2
        have hahs := B1.out
        rw [← HCS1.out, hsp] at hahs
        have hpn : ∀ z ∈ parts, NdAt w7 (Grown F2 w6) d 4 16 z.b z.f z.l := fun z hz => by
          have := hP.at_ z hz
          rwa [ite_self] at this
        obtain ⟨a1, a2⟩ := mid_ahd (parts := parts) hahs (by simp) (by rw [hP.head]; rfl) hP.ahd (fun p hp => by rw [hP.flat] at hp; simpa [flat] using hp) (fun z hz => ⟨(hpn z hz).ne (by omega), (hpn z hz).ord.2⟩)
        rw [← hsp] at a2
        have a3 : flat (cs1.take i ++ parts ++ cs1.drop (i + 2)) = flat cs1 := by
          conv => rhs; rw [hsp]
          rw [flat_app, flat_app, flat_app, flat_app, hP.flat]
          simp [flat]
        have t1 : cs1.take i = cs.take i := by rw [HCS1.out]; exact List.take_set_of_le ji
        have t2 : cs1.drop (i + 2) = cs.drop (i + 2) := by rw [HCS1.out]; exact List.drop_set_of_lt ij
        have hold : ∀ z ∈ cs, NdAt (w8.alloc (.cells #[.slice fo f.length fc, .slice none 0 0, .slice ao2 n2 ca2] 55)) (Grown F w) d 4 16 z.b z.f z.l := fun z hz => (((hcs4 z hz).keep0 hk47).keep hk7N hgk).mono (fun y hy _ => HF2.out.2 y hy)
        refine del_fin (cs2 := cs1.take i ++ parts ++ cs1.drop (i + 2)) hkN (Blk.fresh w8 55 _) HN2.out hk08.size hf hff hfl (own_read hO9 (ptrs_one _)) (fun ad e _ => ?_) (fun z hz => ?_) (by rw [a3, HCS1.out]; exact B3.out) a1 (by rw [a2, HCS1.out]; exact B2.out) (by rw [← HN2.out, HN2b.out]; omega) (by rw [← HN2.out, HN2b.out]; omega)
        · subst e
          exact .inr (own_lt hO9 ad.block (by simp)).1
        · rcases List.mem_append.1 hz with hz | hz
          · rcases List.mem_append.1 hz with hz | hz
            · rw [t1] at hz
              exact hold z (List.mem_of_mem_take hz)
            · refine ((hpn z hz).keep hk7N (fun y hy hF => ?_)).mono (fun y hy _ => ?_)
              · rcases hF with hF | hF
                · exact hgk y hy hF
                · simp at hy
                  omega
              · rcases hy with hy | hy
                · exact HF2.out.2 y hy
                · exact .inr (Nat.le_trans (hk04.trans (hk5.trans hkd)).size hy)
          · rw [t2] at hz
            exact hold z (List.mem_of_mem_drop hz)
  · have n1 : ¬ ((n3 : Int) < 4) := by omega
    have bF := built_N fo (some ⟨g, 0, none⟩) f.length fc cs.length ca
    go_wp2_with fail
    go_ret
    have hkN := hk05.alloc (.cells #[.slice fo f.length fc, .slice none 0 0, .slice (some ⟨g, 0, none⟩) cs.length ca] 55)
    have hk4N := hk5.alloc (.cells #[.slice fo f.length fc, .slice none 0 0, .slice (some ⟨g, 0, none⟩) cs.length ca] 55)
    have hcs1 := HCS1.out
    have hO5 := own_keep hO4 hk4N (by simp)
    refine del_fin (cs2 := cs1) hkN (Blk.fresh w5 55 _) (by rw [hcs1]; exact HLN.out.symm) hk05.size hf hff hfl (own_read hO5 (ptrs_one _)) (fun ad e _ => ?_) (fun x hx => ?_) (by rw [hcs1]; exact B3.out) (by rw [hcs1]; exact B1.out) (by rw [hcs1]; exact B2.out) (by rw [hcs1, HLN.out]; omega) (by rw [hcs1, HLN.out]; omega)
    · cases e
      exact .inr hgN
    · rw [hcs1] at hx
      rcases List.mem_or_eq_of_mem_set hx with hx | rfl
      · exact ((hcs4 x hx).keep0 hk4N).mono (fun y hy _ => HF2.out.2 y hy)
      · exact ((hN4.more (by omega) hn16).keep0 hk4N).mono (fun y hy _ => HF2.out.2 y hy)
theorem ndel : ∀ (d : Nat) (w : World) (F : Nat → Prop) (m b : Nat) (f : Bs) (l : List KV) (ko : Option Addr) (kc : Nat) (k : Bs), NdAt w F d m 16 b f l → Rb w ko kc k → has k l = true → (d = 0 ∨ 2 ≤ m) → Calls Tryd.prog 22 #[.pointer (some ⟨b, 0, none⟩), .slice ko k.length kc] w fun e w' => DelPost w F d m f l k e w'
  | 0, _, _, _, _, _, _, _, _, _, h, hk, hh, _ => ndel0 h hk hh
  | d + 1, _, _, _, _, _, _, _, _, _, h, hk, hh, hm => ndel1 (ndel d) h hk hh (hm.resolve_left (by simp))
end Go.Proofs.YtknnhnpcgefchaaDoor

