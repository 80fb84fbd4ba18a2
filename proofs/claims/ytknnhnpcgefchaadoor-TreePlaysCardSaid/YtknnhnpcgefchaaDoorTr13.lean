/- A tree's nodes: parted, of an inner one. -/
import Derived.Test.YtknnhnpcgefchaaDoorTr12

namespace Go.Proofs.YtknnhnpcgefchaaDoor
open Go.RowKit Go.Lib

theorem rds6 {W : World} {F1 F2 F3 F4 F5 F6 : World → Prop} {i1 i2 i3 i4 i5 i6 : Nat} (h1 : F1 W) (h2 : F2 W) (h3 : F3 W) (h4 : F4 W) (h5 : F5 W) (h6 : F6 W) : ∀ p ∈ [(i1, F1), (i2, F2), (i3, F3), (i4, F4), (i5, F5), (i6, F6)], p.2 W := by
  intro p hp
  simp only [List.mem_cons, List.not_mem_nil, or_false] at hp
  rcases hp with rfl | rfl | rfl | rfl | rfl | rfl <;> assumption
theorem ptrs_take (cs : List Nd) (m : Nat) : (ptrs cs).take m = ptrs (cs.take m) := by simp [ptrs, List.map_take]
theorem ptrs_drop (cs : List Nd) (m : Nat) : (ptrs cs).drop m = ptrs (cs.drop m) := by simp [ptrs, List.map_drop]
theorem ptrs_ne {cs : List Nd} (h : cs ≠ []) : ptrs cs ≠ [] := by
  intro h0
  have := congrArg List.length h0
  simp at this
  exact h this
theorem parted1_fin {w w' : World} {F : Nat → Prop} {d m xa xb g : Nat} {f : Bs} {l : List KV} {fo qo : Option Addr} {fc qc cc bb o : Nat} {cs : List Nd} {q : Nd} (hk : Keeps [] w w')
    (hA : Blk w' xa 55 #[.slice fo f.length fc, .slice none 0 0, .slice (some ⟨bb, o, none⟩) m m])
    (hB : Blk w' xb 55 #[.slice qo q.f.length qc, .slice none 0 0, .slice (some ⟨bb, o + m, none⟩) (cs.length - m) (cc - m)])
    (hG : Blk w' g 51 #[.pointer (some ⟨xa, 0, none⟩), .pointer (some ⟨xb, 0, none⟩)]) (ha : w.heap.size ≤ xa) (hb : w.heap.size ≤ xb) (hg : w.heap.size ≤ g)
    (hf : Rb w fo fc f) (hff : Fr F fo (bys f)) (hqf : Rb w qo qc q.f) (hqff : Fr F qo (bys q.f)) (hS : Sl w 1 (some ⟨bb, o, none⟩) cs.length cc (ptrs cs)) (hfc : Fr F (some ⟨bb, o, none⟩) (ptrs cs)) (hcs : ∀ c ∈ cs, NdAt w F d 4 16 c.b c.f c.l) (hfl0 : flat cs = l) (hah : cs.Pairwise Ahd) (hhd : cs.head?.map Nd.f = some f)
    (hfl : f.length ≤ 1000000) (hq : cs[m]? = some q) (hm1 : 4 ≤ m) (hm2 : m ≤ 16) (hm3 : cs.length - m ≤ 16) (hm4 : 4 ≤ cs.length - m) (m0 : Nat) :
    Parted w w' F (d + 1) m0 f l g [⟨xa, f, flat (cs.take m)⟩, ⟨xb, q.f, flat (cs.drop m)⟩] := by
  have hml := (List.getElem?_eq_some_iff.1 hq).1
  have hqm := List.mem_of_getElem? hq
  have hcap := hS.cap
  have hmost := hS.most
  have hT : Sl w 1 (some ⟨bb, o, none⟩) m m (ptrs (cs.take m)) := by
    have := hS.take (k := m) (c' := m) (by omega) (Nat.le_refl _) (by omega)
    rwa [Nat.mul_one, ptrs_take] at this
  have hD : Sl w 1 (some ⟨bb, o + m, none⟩) (cs.length - m) (cc - m) (ptrs (cs.drop m)) := by
    have := hS.drop (k := m) (by omega)
    rw [if_neg (by omega), Nat.mul_one, ptrs_drop] at this
    simpa [addr_add] using this
  have hsplit : flat (cs.take m) ++ flat (cs.drop m) = l := by rw [← flat_app, List.take_append_drop, hfl0]
  have hah2 := hah
  rw [← List.take_append_drop m cs] at hah2
  obtain ⟨s1, s2, s3⟩ := List.pairwise_append.1 hah2
  have hdh : cs.drop m = q :: cs.drop (m + 1) := by
    rw [List.drop_eq_getElem_cons hml]
    congr 1
    exact (List.getElem?_eq_some_iff.1 hq).2
  have hqd : q ∈ cs.drop m := by rw [hdh]; exact List.mem_cons_self
  have hth : (cs.take m).head?.map Nd.f = some f := by
    cases cs with
    | nil => simp at hml
    | cons c cs =>
      obtain ⟨k, rfl⟩ : ∃ k, m = k + 1 := ⟨m - 1, by omega⟩
      simpa using hhd
  have hahead : ∀ p ∈ flat (cs.take m), ltB p.1 q.f = true := fun p hp => by
    obtain ⟨c, hc, hpc⟩ := flat_mem.1 hp
    exact (s3 c hc q hqd).2 p hpc
  have hlt0 : ltB f q.f = true := by
    cases hh : (cs.take m).head? with
    | none => rw [hh] at hth; simp at hth
    | some c =>
      rw [hh] at hth
      simp at hth
      have hcm : c ∈ cs.take m := List.mem_of_head? hh
      rw [← hth]
      exact (s3 c hcm q hqd).1
  have gF : ∀ x, F x → x < w.heap.size → Grown F w x := fun _ h _ => .inl h
  have hne : cs ≠ [] := by rintro rfl; simp at hml
  have hq16 := (hcs q hqm).flen
  refine ⟨hG, hg, .inr rfl, fun c hc => ?_, two_ahd ⟨hlt0, hahead⟩, rfl, by simpa [flat] using hsplit, hk⟩
  have tl : (cs.take m).length = m := by rw [List.length_take]; omega
  have dl : (cs.drop m).length = cs.length - m := List.length_drop ..
  simp only [List.mem_cons, List.not_mem_nil, or_false] at hc
  rcases hc with rfl | rfl
  · refine ⟨fo, fc, none, 0, some ⟨bb, o, none⟩, m, cs.take m, by rw [tl]; exact hA, .inr ha, hf.keep0 hk, hff.mono hf gF, Sl.none _ _, by rw [tl]; exact hT.keep0 hk, ?_, fun c hc => ((hcs c (List.mem_of_mem_take hc)).grow w).keep0 hk, rfl, s1, hth, by rw [tl]; exact hm1, by rw [tl]; exact hm2, hfl⟩
    exact fun ad e hx => .inl (hfc ad e (ptrs_ne hne))
  · refine ⟨qo, qc, none, 0, some ⟨bb, o + m, none⟩, cc - m, cs.drop m, by rw [dl]; exact hB, .inr hb, hqf.keep0 hk, hqff.mono hqf gF, Sl.none _ _, by rw [dl]; exact hD.keep0 hk, ?_, fun c hc => ((hcs c (List.mem_of_mem_drop hc)).grow w).keep0 hk, rfl, s2, by rw [hdh]; rfl, by rw [dl]; exact hm4, by rw [dl]; exact hm3, hq16⟩
    intro ad e hx
    cases e
    exact .inl (hfc ⟨bb, o, none⟩ rfl (ptrs_ne hne))

set_option maxRecDepth 100000 in
set_option maxHeartbeats 4000000 in
theorem nparted1 {w : World} {F : Nat → Prop} {d m0 M b : Nat} {f : Bs} {l : List KV} (h : NdAt w F (d + 1) m0 M b f l) (hM : M ≤ 32) :
    Calls Tryd.prog 35 #[.pointer (some ⟨b, 0, none⟩)] w fun e w' => ∃ g cs', e = .returned (.slice (some ⟨g, 0, none⟩) cs'.length cs'.length) ∧ Parted w w' F (d + 1) m0 f l g cs' := by
  have H := h
  obtain ⟨fo, fc, po, pc, co, cc, cs, hB, hb, hf, hff, hS0, hS, hfc, hcs, hfl0, hah, hhd, hm0, hM2, hfl⟩ := H
  have hlf := nleaf hB
  have hne : cs ≠ [] := by rintro rfl; simp at hhd
  have hl0 := List.length_pos_iff.2 hne
  have z0 : (cs.length == 0) = false := by simpa using hne
  rw [z0] at hlf
  have hcell := hB.cell
  have hl := hB.lt
  by_cases h16 : 16 < cs.length
  · have n1 : (16 : Int) < (cs.length : Int) := by omega
    obtain ⟨m, hm⟩ : ∃ m, m = cs.length / 2 := ⟨_, rfl⟩
    have q1 : (cs.length : Int).tdiv 2 = (m : Int) := by rw [Int.tdiv_eq_ediv_of_nonneg (by omega)]; omega
    have hml : m < cs.length := by omega
    have hm1 : 8 ≤ m := by omega
    have hm2 : m ≤ 16 := by omega
    have hm3 : cs.length - m ≤ 16 := by omega
    have hm4 : 4 ≤ cs.length - m := by omega
    clear hm
    have hcap := hS.cap
    obtain ⟨bb, o, rfl⟩ := hS.at (by omega)
    have c0 : w.cell? ⟨b, 0, none⟩ = some (.slice fo f.length fc) := hcell 0
    have c1 : w.cell? ⟨b, 2, none⟩ = some (.slice (some ⟨bb, o, none⟩) cs.length cc) := hcell 2
    obtain ⟨q, hq⟩ : ∃ q, cs[m]? = some q := ⟨_, List.getElem?_eq_getElem hml⟩
    have hqm := List.mem_of_getElem? hq
    have ck : w.cell? ⟨bb, o + m, none⟩ = some (.pointer (some ⟨q.b, 0, none⟩)) := by
      have := hS.cells rfl m (.pointer (some ⟨q.b, 0, none⟩)) (by simp [ptrs, hq])
      rwa [addr_add rfl] at this
    obtain ⟨qo, qc, v1, v2, hqB, hqf, hqff⟩ := (hcs q hqm).first
    have cq : w.cell? ⟨q.b, 0, none⟩ = some (.slice qo q.f.length qc) := hqB.cell 0
    have p0 : (0 : Int) ≤ (m : Int) := by omega
    have p1 : (m : Int) ≤ (cc : Int) := by omega
    have p2 : (m : Int) < (cs.length : Int) := by omega
    have p3 : (m : Int) ≤ (cs.length : Int) := by omega
    have p4 : ¬ (cc = m) := by omega
    go_enter Tryd.func35, Tryd.ntmps35
    go_wp2_with fail
    refine hlf.mono ?_
    rintro e w1 ⟨rfl, hw⟩
    obtain rfl := hw.symm
    go_upto_region 6 with (fail)
    have HR0 : (∀ W : World, Keeps [] w W → ∀ p ∈ [((3 : Nat), fun w0 : World => w0.cell? ⟨b, 0, none⟩ = some (.slice fo f.length fc)), ((7 : Nat), fun w0 : World => w0.cell? ⟨b, 2, none⟩ = some (.slice (some ⟨bb, o, none⟩) cs.length cc)), ((16 : Nat), fun w0 : World => w0.cell? ⟨b, 2, none⟩ = some (.slice (some ⟨bb, o, none⟩) cs.length cc)), ((19 : Nat), fun w0 : World => w0.cell? ⟨bb, o + m, none⟩ = some (.pointer (some ⟨q.b, 0, none⟩))), ((22 : Nat), fun w0 : World => w0.cell? ⟨q.b, 0, none⟩ = some (.slice qo q.f.length qc)), ((26 : Nat), fun w0 : World => w0.cell? ⟨b, 2, none⟩ = some (.slice (some ⟨bb, o, none⟩) cs.length cc))], p.2 W) :=
      fun W hW => rds6 (hW.cellSome c0 (by simp)) (hW.cellSome c1 (by simp)) (hW.cellSome c1 (by simp)) (hW.cellSome ck (by simp)) (hW.cellSome cq (by simp)) (hW.cellSome c1 (by simp))
    have hkd := (Keeps.refl [] w).drew
    have hSw := HR0 _ hkd
    have HR := Lib.hid HR0
    clear HR0
    have bL := built_N fo (some ⟨bb, o, none⟩) f.length fc m m
    have bR := built_N qo (some ⟨bb, o + m, none⟩) q.f.length qc (cs.length - m) (cc - m)
    refine startU [((3 : Nat), fun w0 : World => w0.cell? ⟨b, 0, none⟩ = some (.slice fo f.length fc)), ((7 : Nat), fun w0 : World => w0.cell? ⟨b, 2, none⟩ = some (.slice (some ⟨bb, o, none⟩) cs.length cc)), ((16 : Nat), fun w0 : World => w0.cell? ⟨b, 2, none⟩ = some (.slice (some ⟨bb, o, none⟩) cs.length cc)), ((19 : Nat), fun w0 : World => w0.cell? ⟨bb, o + m, none⟩ = some (.pointer (some ⟨q.b, 0, none⟩))), ((22 : Nat), fun w0 : World => w0.cell? ⟨q.b, 0, none⟩ = some (.slice qo q.f.length qc)), ((26 : Nat), fun w0 : World => w0.cell? ⟨b, 2, none⟩ = some (.slice (some ⟨bb, o, none⟩) cs.length cc))] (by kernel_rfl) ?_
    refine takeU (i := 0) (v := ?_) rfl (by kernel_rfl) (fun _ _ _ h => h) (Or.inl ⟨by rfl, fun w0 hw0 => ?_⟩) (fun p hp _ => hSw p hp) ?_
    rotate_left
    · simp [Reads] at hw0
      go_simp
      try with_reducible rfl
    try go_simp
    refine takeU (i := 1) (v := ?_) rfl (by kernel_rfl) (fun _ _ _ h => h) (Or.inl ⟨by rfl, fun w0 hw0 => ?_⟩) (fun p hp _ => hSw p hp) ?_
    rotate_left
    · simp [Reads] at hw0
      go_simp
      try with_reducible rfl
    try go_simp
    refine takeU (i := 2) (v := ?_) rfl (by kernel_rfl) (fun _ _ _ h => h) (Or.inl ⟨by rfl, fun w0 hw0 => ?_⟩) (fun p hp _ => hSw p hp) ?_
    rotate_left
    · simp [Reads] at hw0
      go_simp
      try with_reducible rfl
    try go_simp
    refine takeU (i := 3) (v := ?_) rfl (by kernel_rfl) (fun _ _ _ h => h) (Or.inl ⟨by rfl, fun w0 hw0 => ?_⟩) (fun p hp _ => hSw p hp) ?_
    rotate_left
    · simp [Reads] at hw0
      go_simp
      try with_reducible rfl
    try go_simp
    refine takeU (i := 4) (v := ?_) rfl (by kernel_rfl) (fun _ _ _ h => h) (Or.inl ⟨by rfl, fun w0 hw0 => ?_⟩) (fun p hp _ => hSw p hp) ?_
    rotate_left
    · simp [Reads] at hw0
      go_simp
      try with_reducible rfl
    try go_simp
    refine takeU (i := 5) (v := ?_) rfl (by kernel_rfl) (fun _ _ _ h => h) (Or.inl ⟨by rfl, fun w0 hw0 => ?_⟩) (fun p hp _ => hSw p hp) ?_
    rotate_left
    · simp [Reads] at hw0
      go_simp
      try with_reducible rfl
    try go_simp
    refine takeU (i := 6) (v := ?_) rfl (by kernel_rfl) (fun _ _ _ h => h) (Or.inl ⟨by rfl, fun w0 hw0 => ?_⟩) (fun p hp _ => hSw p hp) ?_
    rotate_left
    · simp [Reads] at hw0
      go_simp
      try with_reducible rfl
    try go_simp
    refine takeU (i := 7) (v := ?_) rfl (by kernel_rfl) (fun _ _ _ h => h) (Or.inl ⟨by rfl, fun w0 hw0 => ?_⟩) (fun p hp _ => hSw p hp) ?_
    rotate_left
    · simp [Reads] at hw0
      go_simp
      try with_reducible rfl
    try go_simp
    refine takeU (i := 8) (v := ?_) rfl (by kernel_rfl) (fun _ _ _ h => h) (Or.inl ⟨by rfl, fun w0 hw0 => ?_⟩) (fun p hp _ => hSw p hp) ?_
    rotate_left
    · simp [Reads] at hw0
      go_simp
      try with_reducible rfl
    try go_simp
    refine takeU (i := 9) (v := ?_) rfl (by kernel_rfl) (fun _ _ _ h => h) (Or.inl ⟨by rfl, fun w0 hw0 => ?_⟩) (fun p hp _ => hSw p hp) ?_
    rotate_left
    · simp [Reads] at hw0
      go_simp
      try with_reducible rfl
    try go_simp
    refine takeU (i := 10) (v := ?_) rfl (by kernel_rfl) (fun _ _ _ h => h) (Or.inl ⟨by rfl, fun w0 hw0 => ?_⟩) (fun p hp _ => hSw p hp) ?_
    rotate_left
    · simp [Reads] at hw0
      go_simp
      try with_reducible rfl
    try go_simp
    refine takeU (i := 11) (v := ?_) rfl (by kernel_rfl) (fun _ _ _ h => h) (Or.inl ⟨by rfl, fun w0 hw0 => ?_⟩) (fun p hp _ => hSw p hp) ?_
    rotate_left
    · simp [Reads] at hw0
      go_simp
      try with_reducible rfl
    try go_simp
    refine takeU (i := 13) (v := ?_) rfl (by kernel_rfl) (fun _ _ _ h => h) (Or.inl ⟨by rfl, fun w0 hw0 => ?_⟩) (fun p hp _ => hSw p hp) ?_
    rotate_left
    · simp [Reads] at hw0
      go_simp
      try with_reducible rfl
    try go_simp
    refine takeU (i := 14) (v := ?_) rfl (by kernel_rfl) (fun _ _ _ h => h) (Or.inl ⟨by rfl, fun w0 hw0 => ?_⟩) (fun p hp _ => hSw p hp) ?_
    rotate_left
    · simp [Reads] at hw0
      go_simp
      try with_reducible rfl
    try go_simp
    refine takeU (i := 15) (v := ?_) rfl (by kernel_rfl) (fun _ _ _ h => h) (Or.inl ⟨by rfl, fun w0 hw0 => ?_⟩) (fun p hp _ => hSw p hp) ?_
    rotate_left
    · simp [Reads] at hw0
      go_simp
      try with_reducible rfl
    try go_simp
    refine takeU (i := 16) (v := ?_) rfl (by kernel_rfl) (fun _ _ _ h => h) (Or.inl ⟨by rfl, fun w0 hw0 => ?_⟩) (fun p hp _ => hSw p hp) ?_
    rotate_left
    · simp [Reads] at hw0
      go_simp
      try with_reducible rfl
    try go_simp
    refine takeU (i := 17) (v := ?_) rfl (by kernel_rfl) (fun _ _ _ h => h) (Or.inl ⟨by rfl, fun w0 hw0 => ?_⟩) (fun p hp _ => hSw p hp) ?_
    rotate_left
    · simp [Reads] at hw0
      go_simp
      try with_reducible rfl
    try go_simp
    refine takeU (i := 18) (v := ?_) rfl (by kernel_rfl) (fun _ _ _ h => h) (Or.inl ⟨by rfl, fun w0 hw0 => ?_⟩) (fun p hp _ => hSw p hp) ?_
    rotate_left
    · simp [Reads] at hw0
      go_simp
      try with_reducible rfl
    try go_simp
    refine takeU (i := 19) (v := ?_) rfl (by kernel_rfl) (fun _ _ _ h => h) (Or.inl ⟨by rfl, fun w0 hw0 => ?_⟩) (fun p hp _ => hSw p hp) ?_
    rotate_left
    · simp [Reads] at hw0
      go_simp
      try with_reducible rfl
    try go_simp
    refine takeU (i := 20) (v := ?_) rfl (by kernel_rfl) (fun _ _ _ h => h) (Or.inl ⟨by rfl, fun w0 hw0 => ?_⟩) (fun p hp _ => hSw p hp) ?_
    rotate_left
    · simp [Reads] at hw0
      go_simp
      try with_reducible rfl
    try go_simp
    refine takeU (i := 21) (v := ?_) rfl (by kernel_rfl) (fun _ _ _ h => h) (Or.inl ⟨by rfl, fun w0 hw0 => ?_⟩) (fun p hp _ => hSw p hp) ?_
    rotate_left
    · simp [Reads] at hw0
      go_simp
      try with_reducible rfl
    try go_simp
    refine takeU (i := 22) (v := ?_) rfl (by kernel_rfl) (fun _ _ _ h => h) (Or.inl ⟨by rfl, fun w0 hw0 => ?_⟩) (fun p hp _ => hSw p hp) ?_
    rotate_left
    · simp [Reads] at hw0
      go_simp
      try with_reducible rfl
    try go_simp
    refine takeU (i := 23) (v := ?_) rfl (by kernel_rfl) (fun _ _ _ h => h) (Or.inl ⟨by rfl, fun w0 hw0 => ?_⟩) (fun p hp _ => hSw p hp) ?_
    rotate_left
    · simp [Reads] at hw0
      go_simp
      try with_reducible rfl
    try go_simp
    refine takeU (i := 24) (v := ?_) rfl (by kernel_rfl) (fun _ _ _ h => h) (Or.inl ⟨by rfl, fun w0 hw0 => ?_⟩) (fun p hp _ => hSw p hp) ?_
    rotate_left
    · simp [Reads] at hw0
      go_simp
      try with_reducible rfl
    try go_simp
    refine takeU (i := 25) (v := ?_) rfl (by kernel_rfl) (fun _ _ _ h => h) (Or.inl ⟨by rfl, fun w0 hw0 => ?_⟩) (fun p hp _ => hSw p hp) ?_
    rotate_left
    · simp [Reads] at hw0
      go_simp
      try with_reducible rfl
    try go_simp
    refine takeU (i := 26) (v := ?_) rfl (by kernel_rfl) (fun _ _ _ h => h) (Or.inl ⟨by rfl, fun w0 hw0 => ?_⟩) (fun p hp _ => hSw p hp) ?_
    rotate_left
    · simp [Reads] at hw0
      go_simp
      try with_reducible rfl
    try go_simp
    refine takeU (i := 27) (v := ?_) rfl (by kernel_rfl) (fun _ _ _ h => h) (Or.inl ⟨by rfl, fun w0 hw0 => ?_⟩) (fun p hp _ => hSw p hp) ?_
    rotate_left
    · simp [Reads] at hw0
      go_simp
      try with_reducible rfl
    try go_simp
    refine takeU (i := 28) (v := ?_) rfl (by kernel_rfl) (fun _ _ _ h => h) (Or.inl ⟨by rfl, fun w0 hw0 => ?_⟩) (fun p hp _ => hSw p hp) ?_
    rotate_left
    · simp [Reads] at hw0
      go_simp
      try with_reducible rfl
    try go_simp
    refine takeU (i := 29) (v := ?_) rfl (by kernel_rfl) (fun _ _ _ h => h) (Or.inl ⟨by rfl, fun w0 hw0 => ?_⟩) (fun p hp _ => hSw p hp) ?_
    rotate_left
    · simp [Reads] at hw0
      go_simp
      try with_reducible rfl
    try go_simp
    refine twoU (i := 12) (j := 30) rfl rfl (by kernel_rfl) (fun K hK => ?_) (fun K hK => ?_)
    · go_simp
      refine hK _ _ (fun p hp _ _ => HR.out _ (hkd.alloc _) p hp) ?_
      clear hK K
      try go_simp
      refine oneU (i := 30) rfl (by kernel_rfl) (fun K hK => ?_)
      go_simp
      refine hK _ _ (fun p hp _ _ => HR.out _ ((hkd.alloc _).alloc _) p hp) ?_
      clear hK K
      try go_simp
      refine oneU (i := 31) rfl (by kernel_rfl) (fun K hK => ?_)
      go_simp
      refine hK _ _ (fun p hp _ _ => HR.out _ (((hkd.alloc _).alloc _).alloc _) p hp) ?_
      clear hK K
      try go_simp
      refine oneU (i := 32) rfl (by kernel_rfl) (fun K hK => ?_)
      go_simp
      refine hK _ _ (fun p hp _ _ => HR.out _ (((hkd.alloc _).alloc _).alloc _) p hp) ?_
      clear hK K
      refine doneU (by kernel_rfl) ?_
      go_wp2_with fail
      go_ret
      refine ⟨_, _, rfl, parted1_fin (m := m) (cc := cc) (((((Keeps.refl [] w).alloc _).alloc _).alloc _).drew) (((Blk.fresh_at w 55 _ rfl).alloc _).alloc _).drew ((Blk.fresh_at (w.alloc _) 55 _ (by simp)).alloc _).drew (Blk.fresh_at ((w.alloc _).alloc _) 51 _ (by simp)).drew (by omega) (by omega) (by omega) hf hff hqf hqff hS hfc hcs hfl0 hah hhd hfl hq (by omega) hm2 hm3 hm4 m0⟩
    · go_simp
      refine hK _ _ (fun p hp _ _ => HR.out _ (hkd.alloc _) p hp) ?_
      clear hK K
      try go_simp
      refine oneU (i := 12) rfl (by kernel_rfl) (fun K hK => ?_)
      go_simp
      refine hK _ _ (fun p hp _ _ => HR.out _ ((hkd.alloc _).alloc _) p hp) ?_
      clear hK K
      try go_simp
      refine oneU (i := 31) rfl (by kernel_rfl) (fun K hK => ?_)
      go_simp
      refine hK _ _ (fun p hp _ _ => HR.out _ (((hkd.alloc _).alloc _).alloc _) p hp) ?_
      clear hK K
      try go_simp
      refine oneU (i := 32) rfl (by kernel_rfl) (fun K hK => ?_)
      go_simp
      refine hK _ _ (fun p hp _ _ => HR.out _ (((hkd.alloc _).alloc _).alloc _) p hp) ?_
      clear hK K
      refine doneU (by kernel_rfl) ?_
      go_wp2_with fail
      go_ret
      refine ⟨_, _, rfl, parted1_fin (m := m) (cc := cc) (((((Keeps.refl [] w).alloc _).alloc _).alloc _).drew) ((Blk.fresh_at (w.alloc _) 55 _ (by simp)).alloc _).drew (((Blk.fresh_at w 55 _ rfl).alloc _).alloc _).drew (Blk.fresh_at ((w.alloc _).alloc _) 51 _ (by simp)).drew (by omega) (by omega) (by omega) hf hff hqf hqff hS hfc hcs hfl0 hah hhd hfl hq (by omega) hm2 hm3 hm4 m0⟩
  · have n1 : ¬ ((16 : Int) < (cs.length : Int)) := by omega
    have n2 : ¬ ((16 : Int) < 0) := by omega
    go_enter Tryd.func35, Tryd.ntmps35
    go_wp2_with fail
    refine hlf.mono ?_
    rintro e w1 ⟨rfl, hw⟩
    obtain rfl := hw.symm
    go_wp2_with fail
    go_ret
    have hN := Blk.fresh w 51 (ptrs [⟨b, f, l⟩]).toArray
    refine ⟨w.heap.size, [⟨b, f, l⟩], rfl, ⟨hN, Nat.le_refl _, .inl rfl, fun c hc => ?_, by simp, rfl, by simp [flat], (Keeps.refl [] w).alloc _⟩⟩
    simp at hc
    subst hc
    have hk := (Keeps.refl [] w).alloc (.cells #[.pointer (some ⟨b, 0, none⟩)] 51)
    have h16' : NdAt w F (d + 1) m0 16 b f l := ⟨fo, fc, po, pc, co, cc, cs, hB, hb, hf, hff, hS0, hS, hfc, hcs, hfl0, hah, hhd, hm0, by omega, hfl⟩
    exact (h16'.grow w).keep0 hk
theorem nparted {w : World} {F : Nat → Prop} : ∀ {d m M b : Nat} {f : Bs} {l : List KV}, NdAt w F d m M b f l → M ≤ 32 →
    Calls Tryd.prog 35 #[.pointer (some ⟨b, 0, none⟩)] w fun e w' => ∃ g cs', e = .returned (.slice (some ⟨g, 0, none⟩) cs'.length cs'.length) ∧ Parted w w' F d m f l g cs'
  | 0, _, _, _, _, _, h, hM => nparted0 h hM
  | _ + 1, _, _, _, _, _, h, hM => nparted1 h hM
end Go.Proofs.YtknnhnpcgefchaaDoor
