/- A tree's nodes: put, of an inner one: the walk. -/
import Derived.Test.YtknnhnpcgefchaaDoorTr15

namespace Go.Proofs.YtknnhnpcgefchaaDoor
open Go.RowKit Go.Lib

theorem rds3 {W : World} {F1 F2 F3 : World → Prop} {i1 i2 i3 : Nat} (h1 : F1 W) (h2 : F2 W) (h3 : F3 W) : ∀ p ∈ [(i1, F1), (i2, F2), (i3, F3)], p.2 W := by
  intro p hp
  simp only [List.mem_cons, List.not_mem_nil, or_false] at hp
  rcases hp with rfl | rfl | rfl <;> assumption

set_option maxRecDepth 100000 in
set_option maxHeartbeats 8000000 in
theorem nput1 {d : Nat} (IH : ∀ (w : World) (F : Nat → Prop) (m b : Nat) (f : Bs) (l : List KV) (p : Pr), NdAt w F d m 16 b f l → PrOk w F p → ltB p.k f = false → Calls Tryd.prog 21 #[.pointer (some ⟨b, 0, none⟩), .agg p.cells] w fun e w' => PutPost w F d m f l p.k p.v e w')
    {w : World} {F : Nat → Prop} {m b : Nat} {f : Bs} {l : List KV} {p : Pr} (h : NdAt w F (d + 1) m 16 b f l) (hp : PrOk w F p) (hfp : ltB p.k f = false) :
    Calls Tryd.prog 21 #[.pointer (some ⟨b, 0, none⟩), .agg p.cells] w fun e w' => PutPost w F (d + 1) m f l p.k p.v e w' := by
  have HIH := Lib.hid IH
  have H := h
  obtain ⟨fo, fc, po, pc, co, cc, cs, hB, hb, hf, hff, hS0, hS, hfc, hcs, hfl0, hah, hhd, hm0, hM2, hfl⟩ := H
  clear IH h
  have hne : cs ≠ [] := by rintro rfl; simp at hhd
  have hl0 := List.length_pos_iff.2 hne
  have z0 : (cs.length == 0) = false := by simpa using hne
  have hcap := hS.cap
  obtain ⟨bb, o, rfl⟩ := hS.at (by omega)
  have hX := Blk.fresh w 64 p.cells
  have hk0 := (Keeps.refl [] w).alloc (.cells p.cells 64)
  go_enter Tryd.func21, Tryd.ntmps21
  go_upto_region 1 with (fail)
  generalize hw1 : World.alloc w _ = w1 at *
  generalize hxs : w.heap.size = xb at *
  have hB1 := hB.keep hk0 (by simp)
  have hlf := nleaf hB1
  rw [z0] at hlf
  go_wp2_with fail
  refine hlf.mono ?_
  rintro e w2 ⟨rfl, hw⟩
  obtain rfl := hw.symm
  clear hlf
  have hl := hB1.lt
  have hlx := hX.lt
  have ck : w1.cell? ⟨xb, 0, none⟩ = some (.slice p.ka p.k.length p.kc) := hX.cell 0
  have cv : w1.cell? ⟨xb, 1, none⟩ = some (.slice p.va p.v.length p.vc) := hX.cell 1
  go_wp2_with fail
  refine (nchild hB1 (hS.keep0 hk0) (fun c hc => (hcs c hc).keep0 hk0) hah hne (by omega) (hp.k.keep0 hk0)).mono ?_
  rintro e w2 ⟨i, c, rfl, hci, hor, hup, hk2⟩
  have hil := (List.getElem?_eq_some_iff.1 hci).1
  have hcm := List.mem_of_getElem? hci
  have hkc : ltB p.k c.f = false := by
    rcases hor with h | rfl
    · exact h
    · cases cs with
      | nil => simp at hil
      | cons z zs =>
        simp at hci hhd
        rw [← hci, hhd]
        exact hfp
  have c2 : w2.cell? ⟨b, 2, none⟩ = some (.slice (some ⟨bb, o, none⟩) cs.length cc) := (hB1.keep hk2 (by simp)).cell 2
  have cp : w2.cell? ⟨bb, o + i, none⟩ = some (.pointer (some ⟨c.b, 0, none⟩)) := by
    have := ((hS.keep0 (hk0.trans hk2)).cells rfl i (.pointer (some ⟨c.b, 0, none⟩)) (by simp [ptrs, hci]))
    rwa [addr_add rfl] at this
  replace ck := hk2.cellSome ck (by simp)
  replace cv := hk2.cellSome cv (by simp)
  have hk02 := hk0.trans hk2
  have hX2 := hX.keep hk2 (by simp)
  have p0 : (0 : Int) ≤ (i : Int) := by omega
  have p1 : (i : Int) < (cs.length : Int) := by omega
  have HCI := Lib.hid hci
  clear hor hci
  go_upto_region 9 with (fail)
  have HR0 : (∀ W : World, Keeps [] w2 W → ∀ q ∈ [((3 : Nat), fun w0 : World => w0.cell? ⟨b, 2, none⟩ = some (.slice (some ⟨bb, o, none⟩) cs.length cc)), ((6 : Nat), fun w0 : World => w0.cell? ⟨bb, o + i, none⟩ = some (.pointer (some ⟨c.b, 0, none⟩))), ((7 : Nat), fun w0 : World => w0.cell? ⟨xb, 0, none⟩ = some (.slice p.ka p.k.length p.kc) ∧ w0.cell? ⟨xb, 1, none⟩ = some (.slice p.va p.v.length p.vc))], q.2 W) :=
    fun W hW => rds3 (hW.cellSome c2 (by simp)) (hW.cellSome cp (by simp)) ⟨hW.cellSome ck (by simp), hW.cellSome cv (by simp)⟩
  have hkd := (Keeps.refl [] w2).drew
  have hSw := HR0 _ hkd
  have HR := Lib.hid HR0
  clear HR0
  refine startU [((3 : Nat), fun w0 : World => w0.cell? ⟨b, 2, none⟩ = some (.slice (some ⟨bb, o, none⟩) cs.length cc)), ((6 : Nat), fun w0 : World => w0.cell? ⟨bb, o + i, none⟩ = some (.pointer (some ⟨c.b, 0, none⟩))), ((7 : Nat), fun w0 : World => w0.cell? ⟨xb, 0, none⟩ = some (.slice p.ka p.k.length p.kc) ∧ w0.cell? ⟨xb, 1, none⟩ = some (.slice p.va p.v.length p.vc))] (by kernel_rfl) ?_
  refine takeU (i := 0) (v := ?_) rfl (by kernel_rfl) (fun _ _ _ h => h) (Or.inl ⟨by rfl, fun w0 hw0 => ?_⟩) (fun p hp _ => hSw p hp) ?_
  rotate_left
  · simp [Reads] at hw0
    go_simp
    try with_reducible rfl
  try go_simp
  refine takeU (i := 1) (v := ?_) rfl (by kernel_rfl) (fun _ _ _ h => h) (Or.inl ⟨by rfl, fun w0 hw0 => ?_⟩) (fun p hp _ => hSw p hp) ?_
  rotate_left
  · simp [Reads] at hw0
    go_simp
    try with_reducible rfl
  try go_simp
  refine takeU (i := 2) (v := ?_) rfl (by kernel_rfl) (fun _ _ _ h => h) (Or.inl ⟨by rfl, fun w0 hw0 => ?_⟩) (fun p hp _ => hSw p hp) ?_
  rotate_left
  · simp [Reads] at hw0
    go_simp
    try with_reducible rfl
  try go_simp
  refine takeU (i := 3) (v := ?_) rfl (by kernel_rfl) (fun _ _ _ h => h) (Or.inl ⟨by rfl, fun w0 hw0 => ?_⟩) (fun p hp _ => hSw p hp) ?_
  rotate_left
  · simp [Reads] at hw0
    go_simp
    try with_reducible rfl
  try go_simp
  refine takeU (i := 4) (v := ?_) rfl (by kernel_rfl) (fun _ _ _ h => h) (Or.inl ⟨by rfl, fun w0 hw0 => ?_⟩) (fun p hp _ => hSw p hp) ?_
  rotate_left
  · simp [Reads] at hw0
    go_simp
    try with_reducible rfl
  try go_simp
  refine takeU (i := 5) (v := ?_) rfl (by kernel_rfl) (fun _ _ _ h => h) (Or.inl ⟨by rfl, fun w0 hw0 => ?_⟩) (fun p hp _ => hSw p hp) ?_
  rotate_left
  · simp [Reads] at hw0
    go_simp
    try with_reducible rfl
  try go_simp
  refine takeU (i := 6) (v := ?_) rfl (by kernel_rfl) (fun _ _ _ h => h) (Or.inl ⟨by rfl, fun w0 hw0 => ?_⟩) (fun p hp _ => hSw p hp) ?_
  rotate_left
  · simp [Reads] at hw0
    go_simp
    try with_reducible rfl
  try go_simp
  refine takeU (i := 7) (v := ?_) rfl (by kernel_rfl) (fun _ _ _ h => h) (Or.inl ⟨by rfl, fun w0 hw0 => ?_⟩) (fun p hp _ => hSw p hp) ?_
  rotate_left
  · simp [Reads] at hw0
    go_simp
    try with_reducible rfl
  try go_simp
  refine oneU (i := 8) rfl (by kernel_rfl) (fun K hK => ?_)
  go_wp2_with fail
  refine (HIH.out _ F 4 c.b c.f c.l p (((hcs c hcm).keep0 hk02).keep0 hkd) ((hp.keep0 hk02).keep0 hkd) hkc).mono ?_
  rintro e w3 ⟨g, parts, he, hP⟩
  obtain ⟨nw, hnw⟩ : ∃ nw, nw = !has p.k c.l := ⟨_, rfl⟩
  rw [← hnw] at he
  subst he
  have HNW := Lib.hid hnw
  clear hnw HIH
  have hk3 := hP.keeps
  simp only []
  refine hK _ _ (fun q hq _ _ => HR.out _ (hkd.trans hk3) q hq) ?_
  clear hK K
  replace hSw := HR.out _ (hkd.trans hk3)
  refine takeU (i := 9) (v := ?_) rfl (by kernel_rfl) (fun _ _ _ h => h) (Or.inl ⟨by rfl, fun w0 hw0 => ?_⟩) (fun p hp _ => hSw p hp) ?_
  rotate_left
  · simp [Reads] at hw0
    go_simp
    try with_reducible rfl
  try go_simp
  refine takeU (i := 10) (v := ?_) rfl (by kernel_rfl) (fun _ _ _ h => h) (Or.inl ⟨by rfl, fun w0 hw0 => ?_⟩) (fun p hp _ => hSw p hp) ?_
  rotate_left
  · simp [Reads] at hw0
    go_simp
    try with_reducible rfl
  try go_simp
  refine takeU (i := 11) (v := ?_) rfl (by kernel_rfl) (fun _ _ _ h => h) (Or.inl ⟨by rfl, fun w0 hw0 => ?_⟩) (fun p hp _ => hSw p hp) ?_
  rotate_left
  · simp [Reads] at hw0
    go_simp
    try with_reducible rfl
  try go_simp
  refine takeU (i := 12) (v := ?_) rfl (by kernel_rfl) (fun _ _ _ h => h) (Or.inl ⟨by rfl, fun w0 hw0 => ?_⟩) (fun p hp _ => hSw p hp) ?_
  rotate_left
  · simp [Reads] at hw0
    go_simp
    try with_reducible rfl
  try go_simp
  refine takeU (i := 13) (v := ?_) rfl (by kernel_rfl) (fun _ _ _ h => h) (Or.inl ⟨by rfl, fun w0 hw0 => ?_⟩) (fun p hp _ => hSw p hp) ?_
  rotate_left
  · simp [Reads] at hw0
    go_simp
    try with_reducible rfl
  try go_simp
  refine doneU (by kernel_rfl) ?_
  have hk03 := hk02.trans (hkd.trans hk3)
  have hs02 : w.heap.size ≤ w2.drew.heap.size := hk02.size
  have hB3 := hB.keep hk03 (by simp)
  clear hSw HR hB1 hX hX2 hl hlx ck cv cp c2 hkd hk3 hk2 hk0 hk02
  have c2 : w3.cell? ⟨b, 2, none⟩ = some (.slice (some ⟨bb, o, none⟩) cs.length cc) := hB3.cell 2
  have hbl := hB3.lt
  go_wp2_with fail
  refine (cloneN (some ⟨bb, o, none⟩) cs.length cc (ptrs cs) w3 (hS.keep0 hk03) (by omega)).mono ?_
  rintro e w4 ⟨ao, ca, rfl, hO, hk4⟩
  have hk04 := hk03.trans hk4
  have hpl : 1 ≤ parts.length ∧ parts.length ≤ 2 := by rcases hP.len with h | h <;> omega
  have hG := hP.blk.keep hk4 (by simp)
  have hglt := hP.blk.lt
  have q5 : IntKind.i64.wrap ((i : Int) + 1) = (i : Int) + 1 := IntWalk.i64_in _ (by omega)
  have HRP := repN w3.heap.size ao cs.length ca i (i + 1) parts.length g (ptrs cs) (ptrs parts).toArray w4 hO (ptrs_one _) (by omega) (by omega) (by omega) (by omega) (by omega) hG (by simp) (by simpa using ptrs_one parts) (fun x hx => by have := (own_lt hO x hx).1; omega) hk4.size
  rw [show ((i + 1 : Nat) : Int) = (i : Int) + 1 from rfl] at HRP
  go_wp2_with fail
  refine HRP.mono ?_
  rintro e w5 ⟨ao2, ca2, rfl, hO5, _, hk5⟩
  have hnew := own_lt hO
  have hk05 : Keeps [] w w5 := hk04.step hk5 (fun x hx => .inr (Nat.le_trans hk03.size (hnew x hx).1))
  have hk35 : Keeps [] w3 w5 := hk4.step hk5 (fun x hx => .inr (hnew x hx).1)
  clear HRP hO hnew
  have hpt : (ptrs cs).take i ++ (ptrs parts).toArray.toList ++ (ptrs cs).drop (i + 1) = ptrs (cs.take i ++ parts ++ cs.drop (i + 1)) := by
    rw [ptrs_take, ptrs_drop, ptrs_app, ptrs_app]
  rw [hpt] at hO5
  have hlen2 : (cs.take i ++ parts ++ cs.drop (i + 1)).length = i + parts.length + (cs.length - (i + 1)) := by
    simp
    omega
  rw [← hlen2] at hO5 ⊢
  obtain ⟨n2, hn2⟩ : ∃ n2, n2 = (cs.take i ++ parts ++ cs.drop (i + 1)).length := ⟨_, rfl⟩
  rw [← hn2] at hO5 ⊢
  have HN2 := Lib.hid hn2
  have HL2 := Lib.hid hlen2
  clear hn2 hlen2 hpt
  have hB5 := hB.keep hk05 (by simp)
  have c0 : w5.cell? ⟨b, 0, none⟩ = some (.slice fo f.length fc) := hB5.cell 0
  have hbl5 := hB5.lt
  clear c2 hB3
  have bF := built_N fo ao2 f.length fc n2 ca2
  go_wp2_with fail
  have hkN := hk05.alloc (.cells #[.slice fo f.length fc, .slice none 0 0, .slice ao2 n2 ca2] 55)
  have hk3N := hk35.alloc (.cells #[.slice fo f.length fc, .slice none 0 0, .slice ao2 n2 ca2] 55)
  have hBN := Blk.fresh w5 55 #[.slice fo f.length fc, .slice none 0 0, .slice ao2 n2 ca2]
  have hOn := own_older (own_keep hO5 ((Keeps.refl [] w5).alloc (.cells #[.slice fo f.length fc, .slice none 0 0, .slice ao2 n2 ca2] 55)) (by simp)) hk03.size
  have gF : ∀ x, F x → x < w.heap.size → Grown F w x := fun _ h _ => .inl h
  have hpn : ∀ y ∈ parts, NdAt w3 (Grown F w) d 4 16 y.b y.f y.l := fun y hy => by
    have := hP.at_ y hy
    rw [ite_self] at this
    exact this.mono fun x hx _ => by
      rcases hx with hx | hx
      · exact .inl hx
      · exact .inr (Nat.le_trans hs02 hx)
  obtain ⟨a1, a2, a3⟩ := put_ahd hah HCI.out hkc hup (fun x hx => (hcs x hx).ord.2) hhd hP.ahd hP.head hP.flat (fun y hy => ⟨(hpn y hy).ne (by omega), (hpn y hy).ord.2⟩)
  rw [hfl0] at a2
  have hNd : NdAt (w5.alloc (.cells #[.slice fo f.length fc, .slice none 0 0, .slice ao2 n2 ca2] 55)) (Grown F w) (d + 1) m 17 w5.heap.size f (ins p.k p.v l) := by
    have hS2 := own_read hOn (ptrs_one _)
    refine ⟨fo, fc, none, 0, ao2, ca2, cs.take i ++ parts ++ cs.drop (i + 1), by rw [← HN2.out]; exact hBN, .inr hk05.size, hf.keep0 hkN, hff.mono hf gF, Sl.none _ _, by rw [← HN2.out]; exact hS2, fun ad e _ => ?_, fun y hy => ?_, a2, a1, a3, by rw [HL2.out]; omega, by rw [HL2.out]; omega, hfl⟩
    · subst e
      exact .inr (own_lt hOn ad.block (by simp)).1
    · rcases List.mem_append.1 hy with hy | hy
      · rcases List.mem_append.1 hy with hy | hy
        · exact ((hcs y (List.mem_of_mem_take hy)).mono gF).keep0 hkN
        · exact (hpn y hy).keep0 hk3N
      · exact ((hcs y (List.mem_of_mem_drop hy)).mono gF).keep0 hkN
  refine (nparted hNd (by omega)).mono ?_
  rintro e w7 ⟨g2, cs3, rfl, hP2⟩
  go_wp2_with fail
  go_ret2
  have hhas : has p.k l = has p.k c.l := by
    have hsp : cs = cs.take i ++ c :: cs.drop (i + 1) := by
      have : cs.drop i = c :: cs.drop (i + 1) := by
        rw [List.drop_eq_getElem_cons hil]
        congr 1
        exact (List.getElem?_eq_some_iff.1 HCI.out).2
      rw [← this, List.take_append_drop]
    have h2 := hah
    rw [hsp] at h2
    obtain ⟨_, b2, b3⟩ := List.pairwise_append.1 h2
    have e : flat cs = flat (cs.take i) ++ c.l ++ flat (cs.drop (i + 1)) := by
      conv => lhs; rw [hsp]
      rw [flat_app, flat_cons, List.append_assoc]
    rw [← hfl0, e]
    refine has_mid (fun q hq => ?_) (fun q hq => ?_)
    · obtain ⟨x, hx, hqx⟩ := flat_mem.1 hq
      exact lt_leB ((b3 x hx c List.mem_cons_self).2 q hqx) hkc
    · obtain ⟨x, hx, hqx⟩ := flat_mem.1 hq
      exact lt_leB (hup x hx) ((hcs x (List.mem_of_mem_drop hx)).ord.2 q hqx)
  exact ⟨g2, cs3, by rw [hhas, ← HNW.out]; rfl, hP2.back hkN⟩

theorem nput : ∀ (d : Nat) (w : World) (F : Nat → Prop) (m b : Nat) (f : Bs) (l : List KV) (p : Pr), NdAt w F d m 16 b f l → PrOk w F p → ltB p.k f = false → Calls Tryd.prog 21 #[.pointer (some ⟨b, 0, none⟩), .agg p.cells] w fun e w' => PutPost w F d m f l p.k p.v e w'
  | 0, _, _, _, _, _, _, _, h, hp, hf => nput0 h hp hf
  | d + 1, _, _, _, _, _, _, _, h, hp, hf => nput1 (nput d) h hp hf
end Go.Proofs.YtknnhnpcgefchaaDoor
