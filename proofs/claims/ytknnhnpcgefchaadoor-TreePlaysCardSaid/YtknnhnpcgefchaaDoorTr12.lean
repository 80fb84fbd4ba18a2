/- A tree's nodes: parted. -/
import Derived.Test.YtknnhnpcgefchaaDoorTr11

namespace Go.Proofs.YtknnhnpcgefchaaDoor
open Go.RowKit Go.Lib

/-- what parted hands back -/
structure Parted (w w' : World) (F : Nat → Prop) (d m : Nat) (f : Bs) (l : List KV) (g : Nat) (cs : List Nd) : Prop where
  blk : Blk w' g 51 (ptrs cs).toArray
  new : w.heap.size ≤ g
  len : cs.length = 1 ∨ cs.length = 2
  at_ : ∀ c ∈ cs, NdAt w' (Grown F w) d (if cs.length = 2 then 4 else m) 16 c.b c.f c.l
  ahd : cs.Pairwise Ahd
  head : cs.head?.map Nd.f = some f
  flat : flat cs = l
  keeps : Keeps [] w w'

theorem rds5 {W : World} {F1 F2 F3 F4 F5 : World → Prop} {i1 i2 i3 i4 i5 : Nat} (h1 : F1 W) (h2 : F2 W) (h3 : F3 W) (h4 : F4 W) (h5 : F5 W) : ∀ p ∈ [(i1, F1), (i2, F2), (i3, F3), (i4, F4), (i5, F5)], p.2 W := by
  intro p hp
  simp only [List.mem_cons, List.not_mem_nil, or_false] at hp
  rcases hp with rfl | rfl | rfl | rfl | rfl <;> assumption

theorem built_L (fo po : Option Addr) (n c m k : Nat) : Tryd.prog.built 55 [(0, .slice fo n c), (1, .slice po m k)] = some #[.slice fo n c, .slice po m k, .slice none 0 0] := by kernel_rfl
theorem built_N (fo po : Option Addr) (n c m k : Nat) : Tryd.prog.built 55 [(0, .slice fo n c), (2, .slice po m k)] = some #[.slice fo n c, .slice none 0 0, .slice po m k] := by kernel_rfl

theorem kvs_take (ps : List Pr) (m : Nat) : kvs (ps.take m) = (kvs ps).take m := by simp [kvs, List.map_take]
theorem kvs_drop (ps : List Pr) (m : Nat) : kvs (ps.drop m) = (kvs ps).drop m := by simp [kvs, List.map_drop]
theorem two_ahd {x y : Nd} (h : Ahd x y) : [x, y].Pairwise Ahd := by simp [h]
theorem parted0_fin {w w' : World} {F : Nat → Prop} {m xa xb g : Nat} {f : Bs} {l : List KV} {fo : Option Addr} {fc pc bb o : Nat} {ps : List Pr} {q : Pr} (hk : Keeps [] w w')
    (hA : Blk w' xa 55 #[.slice fo f.length fc, .slice (some ⟨bb, o, none⟩) m m, .slice none 0 0])
    (hB : Blk w' xb 55 #[.slice q.ka q.k.length q.kc, .slice (some ⟨bb, o + m * 2, none⟩) (ps.length - m) (pc - m), .slice none 0 0])
    (hG : Blk w' g 51 #[.pointer (some ⟨xa, 0, none⟩), .pointer (some ⟨xb, 0, none⟩)]) (ha : w.heap.size ≤ xa) (hb : w.heap.size ≤ xb) (hg : w.heap.size ≤ g)
    (hf : Rb w fo fc f) (hff : Fr F fo (bys f)) (hS : Sl w 2 (some ⟨bb, o, none⟩) ps.length pc (prs ps)) (hfp : Fr F (some ⟨bb, o, none⟩) (prs ps)) (hps : ∀ p ∈ ps, PrOk w F p) (hkv : kvs ps = l) (hsr : Srt l) (hge : ∀ p ∈ l, ltB p.1 f = false)
    (hfl : f.length ≤ 1000000) (hq : ps[m]? = some q) (hm1 : 4 ≤ m) (hm2 : m ≤ 16) (hm3 : ps.length - m ≤ 16) (hm4 : 4 ≤ ps.length - m) (m0 : Nat) :
    Parted w w' F 0 m0 f l g [⟨xa, f, kvs (ps.take m)⟩, ⟨xb, q.k, kvs (ps.drop m)⟩] := by
  have hml := (List.getElem?_eq_some_iff.1 hq).1
  have hqm := List.mem_of_getElem? hq
  have hcap := hS.cap
  have hmost := hS.most
  have hT : Sl w 2 (some ⟨bb, o, none⟩) m m (prs (ps.take m)) := by
    have := hS.take (k := m) (c' := m) (by omega) (Nat.le_refl _) (by omega)
    rwa [prs_take] at this
  have hD : Sl w 2 (some ⟨bb, o + m * 2, none⟩) (ps.length - m) (pc - m) (prs (ps.drop m)) := by
    have := hS.drop (k := m) (by omega)
    rw [if_neg (by omega), prs_drop] at this
    simpa [addr_add] using this
  have hsplit : kvs (ps.take m) ++ kvs (ps.drop m) = l := by rw [kvs_take, kvs_drop, List.take_append_drop, hkv]
  have hs2 := hsr
  rw [← hsplit] at hs2
  obtain ⟨s1, s2, s3⟩ := Srt.app.1 hs2
  have hdh : ps.drop m = q :: ps.drop (m + 1) := by
    rw [List.drop_eq_getElem_cons hml]
    congr 1
    exact (List.getElem?_eq_some_iff.1 hq).2
  have hkd : kvs (ps.drop m) = (q.k, q.v) :: kvs (ps.drop (m + 1)) := by rw [hdh]; rfl
  have hge2 : ∀ p ∈ kvs (ps.drop m), ltB p.1 q.k = false := fun p hp => by
    rw [hkd] at hp s2
    rcases List.mem_cons.1 hp with rfl | hp
    · exact ltB_irr _
    · exact ltB_asymm ((List.pairwise_cons.1 s2).1 p hp)
  have hmem1 : ∀ p ∈ kvs (ps.take m), p ∈ l := fun p hp => by rw [← hsplit]; exact List.mem_append_left _ hp
  have hahead : ∀ p ∈ kvs (ps.take m), ltB p.1 q.k = true := fun p hp => s3 p hp (q.k, q.v) (by rw [hkd]; exact List.mem_cons_self)
  have hlt0 : ltB f q.k = true := by
    have h0 : ps[0]? = some ps[0] := List.getElem?_eq_getElem (by omega)
    have hin : ((ps[0]).k, (ps[0]).v) ∈ kvs (ps.take m) := by
      rw [kvs]
      refine List.mem_map.2 ⟨ps[0], ?_, rfl⟩
      refine List.mem_iff_getElem?.2 ⟨0, ?_⟩
      rw [List.getElem?_take, if_pos (by omega), h0]
    exact leB_lt (hge _ (hmem1 _ hin)) (hahead _ hin)
  have hpq := hps q hqm
  have gF : ∀ x, F x → x < w.heap.size → Grown F w x := fun _ h _ => .inl h
  refine ⟨hG, hg, .inr rfl, fun c hc => ?_, two_ahd ⟨hlt0, hahead⟩, rfl, by simpa [flat] using hsplit, hk⟩
  have tl : (ps.take m).length = m := by rw [List.length_take]; omega
  have dl : (ps.drop m).length = ps.length - m := List.length_drop ..
  simp only [List.mem_cons, List.not_mem_nil, or_false] at hc
  rcases hc with rfl | rfl
  · refine ⟨fo, fc, some ⟨bb, o, none⟩, m, none, 0, ps.take m, by rw [tl]; exact hA, .inr ha, hf.keep0 hk, hff.mono hf gF, by rw [tl]; exact hT.keep0 hk, ?_, Sl.none _ _, fun p hp => ((hps p (List.mem_of_mem_take hp)).keep hk (by simp)).mono (fun x h _ => .inl h), rfl, s1, fun p hp => hge p (hmem1 p hp), by rw [tl]; exact hm1, by rw [tl]; exact hm2, hfl⟩
    exact fun ad e hx => .inl (hfp ad e (by
      intro h0
      have := congrArg List.length h0
      rw [prs_length] at this
      simp at this
      omega))
  · refine ⟨q.ka, q.kc, some ⟨bb, o + m * 2, none⟩, pc - m, none, 0, ps.drop m, by rw [dl]; exact hB, .inr hb, hpq.k.keep0 hk, hpq.fk.mono hpq.k gF, by rw [dl]; exact hD.keep0 hk, ?_, Sl.none _ _, fun p hp => ((hps p (List.mem_of_mem_drop hp)).keep hk (by simp)).mono (fun x h _ => .inl h), rfl, s2, hge2, by rw [dl]; exact hm4, by rw [dl]; exact hm3, hpq.lk⟩
    intro ad e hx
    cases e
    exact .inl (hfp ⟨bb, o, none⟩ rfl (by
      intro h0
      have := congrArg List.length h0
      rw [prs_length] at this
      simp at this
      omega))

set_option maxRecDepth 100000 in
set_option maxHeartbeats 4000000 in
theorem nparted0 {w : World} {F : Nat → Prop} {m0 M b : Nat} {f : Bs} {l : List KV} (h : NdAt w F 0 m0 M b f l) (hM : M ≤ 32) :
    Calls Tryd.prog 35 #[.pointer (some ⟨b, 0, none⟩)] w fun e w' => ∃ g cs, e = .returned (.slice (some ⟨g, 0, none⟩) cs.length cs.length) ∧ Parted w w' F 0 m0 f l g cs := by
  have H := h
  obtain ⟨fo, fc, po, pc, co, cc, ps, hB, hb, hf, hff, hS, hfp, hS0, hps, hkv, hsr, hge, hm0, hM2, hfl⟩ := H
  have hlf := nleaf hB
  have hcell := hB.cell
  have hl := hB.lt
  by_cases h16 : 16 < ps.length
  · have n1 : (16 : Int) < (ps.length : Int) := by omega
    obtain ⟨m, hm⟩ : ∃ m, m = ps.length / 2 := ⟨_, rfl⟩
    have q1 : (ps.length : Int).tdiv 2 = (m : Int) := by rw [Int.tdiv_eq_ediv_of_nonneg (by omega)]; omega
    have hml : m < ps.length := by omega
    have hm1 : 8 ≤ m := by omega
    have hm2 : m ≤ 16 := by omega
    have hm3 : ps.length - m ≤ 16 := by omega
    have hm4 : 4 ≤ ps.length - m := by omega
    clear hm
    have hcap := hS.cap
    obtain ⟨bb, o, rfl⟩ := hS.at (by omega)
    have c0 : w.cell? ⟨b, 0, none⟩ = some (.slice fo f.length fc) := hcell 0
    have c1 : w.cell? ⟨b, 1, none⟩ = some (.slice (some ⟨bb, o, none⟩) ps.length pc) := hcell 1
    obtain ⟨q, hq⟩ : ∃ q, ps[m]? = some q := ⟨_, List.getElem?_eq_getElem hml⟩
    have hqm := List.mem_of_getElem? hq
    have ck : w.cell? ⟨bb, o + m * 2, none⟩ = some (.slice q.ka q.k.length q.kc) := by
      have := hS.cells rfl (m * 2 + 0) _ (prs_at ps m _ hq 0 _ rfl)
      rwa [addr_add rfl] at this
    have p0 : (0 : Int) ≤ (m : Int) := by omega
    have p1 : (m : Int) ≤ (pc : Int) := by omega
    have p2 : (m : Int) < (ps.length : Int) := by omega
    have p3 : (m : Int) ≤ (ps.length : Int) := by omega
    have p4 : ¬ (pc = m) := by omega
    go_enter Tryd.func35, Tryd.ntmps35
    go_wp2_with fail
    refine hlf.mono ?_
    rintro e w1 ⟨rfl, hw⟩
    obtain rfl := hw.symm
    go_upto_region 3 with (fail)
    have HR0 : (∀ W : World, Keeps [] w W → ∀ p ∈ [((3 : Nat), fun w0 : World => w0.cell? ⟨b, 0, none⟩ = some (.slice fo f.length fc)), ((7 : Nat), fun w0 : World => w0.cell? ⟨b, 1, none⟩ = some (.slice (some ⟨bb, o, none⟩) ps.length pc)), ((16 : Nat), fun w0 : World => w0.cell? ⟨b, 1, none⟩ = some (.slice (some ⟨bb, o, none⟩) ps.length pc)), ((20 : Nat), fun w0 : World => w0.cell? ⟨bb, o + m * 2, none⟩ = some (.slice q.ka q.k.length q.kc)), ((24 : Nat), fun w0 : World => w0.cell? ⟨b, 1, none⟩ = some (.slice (some ⟨bb, o, none⟩) ps.length pc))], p.2 W) :=
      fun W hW => rds5 (hW.cellSome c0 (by simp)) (hW.cellSome c1 (by simp)) (hW.cellSome c1 (by simp)) (hW.cellSome ck (by simp)) (hW.cellSome c1 (by simp))
    have hkd := (Keeps.refl [] w).drew
    have hSw := HR0 _ hkd
    have HR := Lib.hid HR0
    clear HR0
    have bL := built_L fo (some ⟨bb, o, none⟩) f.length fc m m
    have bR := built_L q.ka (some ⟨bb, o + m * 2, none⟩) q.k.length q.kc (ps.length - m) (pc - m)
    refine startU [((3 : Nat), fun w0 : World => w0.cell? ⟨b, 0, none⟩ = some (.slice fo f.length fc)), ((7 : Nat), fun w0 : World => w0.cell? ⟨b, 1, none⟩ = some (.slice (some ⟨bb, o, none⟩) ps.length pc)), ((16 : Nat), fun w0 : World => w0.cell? ⟨b, 1, none⟩ = some (.slice (some ⟨bb, o, none⟩) ps.length pc)), ((20 : Nat), fun w0 : World => w0.cell? ⟨bb, o + m * 2, none⟩ = some (.slice q.ka q.k.length q.kc)), ((24 : Nat), fun w0 : World => w0.cell? ⟨b, 1, none⟩ = some (.slice (some ⟨bb, o, none⟩) ps.length pc))] (by kernel_rfl) ?_
    refine takeU (i := 0) (v := ?_) rfl (by kernel_rfl) (fun _ _ _ h => h) (Or.inl ⟨by rfl, fun w0 hw0 => ?_⟩) (fun p hp _ => hSw p hp) ?_
    rotate_left
    · simp [Reads] at hw0
      go_simp
      try with_reducible rfl
    try go_simp
    refine takeU (i := 1) (v := ?_) rfl (by kernel_rfl) (fun _ _ _ h => h) (Or.inl ⟨by rfl, fun w0 hw0 => ?_⟩) (fun p hp _ => hSw p hp) ?_
    rotate_left
    · simp [Reads] at hw0
      go_simp
      try with_reducible rfl
    try go_simp
    refine takeU (i := 2) (v := ?_) rfl (by kernel_rfl) (fun _ _ _ h => h) (Or.inl ⟨by rfl, fun w0 hw0 => ?_⟩) (fun p hp _ => hSw p hp) ?_
    rotate_left
    · simp [Reads] at hw0
      go_simp
      try with_reducible rfl
    try go_simp
    refine takeU (i := 3) (v := ?_) rfl (by kernel_rfl) (fun _ _ _ h => h) (Or.inl ⟨by rfl, fun w0 hw0 => ?_⟩) (fun p hp _ => hSw p hp) ?_
    rotate_left
    · simp [Reads] at hw0
      go_simp
      try with_reducible rfl
    try go_simp
    refine takeU (i := 4) (v := ?_) rfl (by kernel_rfl) (fun _ _ _ h => h) (Or.inl ⟨by rfl, fun w0 hw0 => ?_⟩) (fun p hp _ => hSw p hp) ?_
    rotate_left
    · simp [Reads] at hw0
      go_simp
      try with_reducible rfl
    try go_simp
    refine takeU (i := 5) (v := ?_) rfl (by kernel_rfl) (fun _ _ _ h => h) (Or.inl ⟨by rfl, fun w0 hw0 => ?_⟩) (fun p hp _ => hSw p hp) ?_
    rotate_left
    · simp [Reads] at hw0
      go_simp
      try with_reducible rfl
    try go_simp
    refine takeU (i := 6) (v := ?_) rfl (by kernel_rfl) (fun _ _ _ h => h) (Or.inl ⟨by rfl, fun w0 hw0 => ?_⟩) (fun p hp _ => hSw p hp) ?_
    rotate_left
    · simp [Reads] at hw0
      go_simp
      try with_reducible rfl
    try go_simp
    refine takeU (i := 7) (v := ?_) rfl (by kernel_rfl) (fun _ _ _ h => h) (Or.inl ⟨by rfl, fun w0 hw0 => ?_⟩) (fun p hp _ => hSw p hp) ?_
    rotate_left
    · simp [Reads] at hw0
      go_simp
      try with_reducible rfl
    try go_simp
    refine takeU (i := 8) (v := ?_) rfl (by kernel_rfl) (fun _ _ _ h => h) (Or.inl ⟨by rfl, fun w0 hw0 => ?_⟩) (fun p hp _ => hSw p hp) ?_
    rotate_left
    · simp [Reads] at hw0
      go_simp
      try with_reducible rfl
    try go_simp
    refine takeU (i := 9) (v := ?_) rfl (by kernel_rfl) (fun _ _ _ h => h) (Or.inl ⟨by rfl, fun w0 hw0 => ?_⟩) (fun p hp _ => hSw p hp) ?_
    rotate_left
    · simp [Reads] at hw0
      go_simp
      try with_reducible rfl
    try go_simp
    refine takeU (i := 10) (v := ?_) rfl (by kernel_rfl) (fun _ _ _ h => h) (Or.inl ⟨by rfl, fun w0 hw0 => ?_⟩) (fun p hp _ => hSw p hp) ?_
    rotate_left
    · simp [Reads] at hw0
      go_simp
      try with_reducible rfl
    try go_simp
    refine takeU (i := 11) (v := ?_) rfl (by kernel_rfl) (fun _ _ _ h => h) (Or.inl ⟨by rfl, fun w0 hw0 => ?_⟩) (fun p hp _ => hSw p hp) ?_
    rotate_left
    · simp [Reads] at hw0
      go_simp
      try with_reducible rfl
    try go_simp
    refine takeU (i := 13) (v := ?_) rfl (by kernel_rfl) (fun _ _ _ h => h) (Or.inl ⟨by rfl, fun w0 hw0 => ?_⟩) (fun p hp _ => hSw p hp) ?_
    rotate_left
    · simp [Reads] at hw0
      go_simp
      try with_reducible rfl
    try go_simp
    refine takeU (i := 14) (v := ?_) rfl (by kernel_rfl) (fun _ _ _ h => h) (Or.inl ⟨by rfl, fun w0 hw0 => ?_⟩) (fun p hp _ => hSw p hp) ?_
    rotate_left
    · simp [Reads] at hw0
      go_simp
      try with_reducible rfl
    try go_simp
    refine takeU (i := 15) (v := ?_) rfl (by kernel_rfl) (fun _ _ _ h => h) (Or.inl ⟨by rfl, fun w0 hw0 => ?_⟩) (fun p hp _ => hSw p hp) ?_
    rotate_left
    · simp [Reads] at hw0
      go_simp
      try with_reducible rfl
    try go_simp
    refine takeU (i := 16) (v := ?_) rfl (by kernel_rfl) (fun _ _ _ h => h) (Or.inl ⟨by rfl, fun w0 hw0 => ?_⟩) (fun p hp _ => hSw p hp) ?_
    rotate_left
    · simp [Reads] at hw0
      go_simp
      try with_reducible rfl
    try go_simp
    refine takeU (i := 17) (v := ?_) rfl (by kernel_rfl) (fun _ _ _ h => h) (Or.inl ⟨by rfl, fun w0 hw0 => ?_⟩) (fun p hp _ => hSw p hp) ?_
    rotate_left
    · simp [Reads] at hw0
      go_simp
      try with_reducible rfl
    try go_simp
    refine takeU (i := 18) (v := ?_) rfl (by kernel_rfl) (fun _ _ _ h => h) (Or.inl ⟨by rfl, fun w0 hw0 => ?_⟩) (fun p hp _ => hSw p hp) ?_
    rotate_left
    · simp [Reads] at hw0
      go_simp
      try with_reducible rfl
    try go_simp
    refine takeU (i := 19) (v := ?_) rfl (by kernel_rfl) (fun _ _ _ h => h) (Or.inl ⟨by rfl, fun w0 hw0 => ?_⟩) (fun p hp _ => hSw p hp) ?_
    rotate_left
    · simp [Reads] at hw0
      go_simp
      try with_reducible rfl
    try go_simp
    refine takeU (i := 20) (v := ?_) rfl (by kernel_rfl) (fun _ _ _ h => h) (Or.inl ⟨by rfl, fun w0 hw0 => ?_⟩) (fun p hp _ => hSw p hp) ?_
    rotate_left
    · simp [Reads] at hw0
      go_simp
      try with_reducible rfl
    try go_simp
    refine takeU (i := 21) (v := ?_) rfl (by kernel_rfl) (fun _ _ _ h => h) (Or.inl ⟨by rfl, fun w0 hw0 => ?_⟩) (fun p hp _ => hSw p hp) ?_
    rotate_left
    · simp [Reads] at hw0
      go_simp
      try with_reducible rfl
    try go_simp
    refine takeU (i := 22) (v := ?_) rfl (by kernel_rfl) (fun _ _ _ h => h) (Or.inl ⟨by rfl, fun w0 hw0 => ?_⟩) (fun p hp _ => hSw p hp) ?_
    rotate_left
    · simp [Reads] at hw0
      go_simp
      try with_reducible rfl
    try go_simp
    refine takeU (i := 23) (v := ?_) rfl (by kernel_rfl) (fun _ _ _ h => h) (Or.inl ⟨by rfl, fun w0 hw0 => ?_⟩) (fun p hp _ => hSw p hp) ?_
    rotate_left
    · simp [Reads] at hw0
      go_simp
      try with_reducible rfl
    try go_simp
    refine takeU (i := 24) (v := ?_) rfl (by kernel_rfl) (fun _ _ _ h => h) (Or.inl ⟨by rfl, fun w0 hw0 => ?_⟩) (fun p hp _ => hSw p hp) ?_
    rotate_left
    · simp [Reads] at hw0
      go_simp
      try with_reducible rfl
    try go_simp
    refine takeU (i := 25) (v := ?_) rfl (by kernel_rfl) (fun _ _ _ h => h) (Or.inl ⟨by rfl, fun w0 hw0 => ?_⟩) (fun p hp _ => hSw p hp) ?_
    rotate_left
    · simp [Reads] at hw0
      go_simp
      try with_reducible rfl
    try go_simp
    refine takeU (i := 26) (v := ?_) rfl (by kernel_rfl) (fun _ _ _ h => h) (Or.inl ⟨by rfl, fun w0 hw0 => ?_⟩) (fun p hp _ => hSw p hp) ?_
    rotate_left
    · simp [Reads] at hw0
      go_simp
      try with_reducible rfl
    try go_simp
    refine takeU (i := 27) (v := ?_) rfl (by kernel_rfl) (fun _ _ _ h => h) (Or.inl ⟨by rfl, fun w0 hw0 => ?_⟩) (fun p hp _ => hSw p hp) ?_
    rotate_left
    · simp [Reads] at hw0
      go_simp
      try with_reducible rfl
    try go_simp
    refine twoU (i := 12) (j := 28) rfl rfl (by kernel_rfl) (fun K hK => ?_) (fun K hK => ?_)
    · go_simp
      refine hK _ _ (fun p hp _ _ => HR.out _ (hkd.alloc _) p hp) ?_
      clear hK K
      try go_simp
      refine oneU (i := 28) rfl (by kernel_rfl) (fun K hK => ?_)
      go_simp
      refine hK _ _ (fun p hp _ _ => HR.out _ ((hkd.alloc _).alloc _) p hp) ?_
      clear hK K
      try go_simp
      refine oneU (i := 29) rfl (by kernel_rfl) (fun K hK => ?_)
      go_simp
      refine hK _ _ (fun p hp _ _ => HR.out _ (((hkd.alloc _).alloc _).alloc _) p hp) ?_
      clear hK K
      try go_simp
      refine oneU (i := 30) rfl (by kernel_rfl) (fun K hK => ?_)
      go_simp
      refine hK _ _ (fun p hp _ _ => HR.out _ (((hkd.alloc _).alloc _).alloc _) p hp) ?_
      clear hK K
      refine doneU (by kernel_rfl) ?_
      go_wp2_with fail
      go_ret
      refine ⟨_, _, rfl, parted0_fin (m := m) (pc := pc) (((((Keeps.refl [] w).alloc _).alloc _).alloc _).drew) (((Blk.fresh_at w 55 _ rfl).alloc _).alloc _).drew ((Blk.fresh_at (w.alloc _) 55 _ (by simp)).alloc _).drew (Blk.fresh_at ((w.alloc _).alloc _) 51 _ (by simp)).drew (by omega) (by omega) (by omega) hf hff hS hfp hps hkv hsr hge hfl hq (by omega) hm2 hm3 hm4 m0⟩
    · go_simp
      refine hK _ _ (fun p hp _ _ => HR.out _ (hkd.alloc _) p hp) ?_
      clear hK K
      try go_simp
      refine oneU (i := 12) rfl (by kernel_rfl) (fun K hK => ?_)
      go_simp
      refine hK _ _ (fun p hp _ _ => HR.out _ ((hkd.alloc _).alloc _) p hp) ?_
      clear hK K
      try go_simp
      refine oneU (i := 29) rfl (by kernel_rfl) (fun K hK => ?_)
      go_simp
      refine hK _ _ (fun p hp _ _ => HR.out _ (((hkd.alloc _).alloc _).alloc _) p hp) ?_
      clear hK K
      try go_simp
      refine oneU (i := 30) rfl (by kernel_rfl) (fun K hK => ?_)
      go_simp
      refine hK _ _ (fun p hp _ _ => HR.out _ (((hkd.alloc _).alloc _).alloc _) p hp) ?_
      clear hK K
      refine doneU (by kernel_rfl) ?_
      go_wp2_with fail
      go_ret
      refine ⟨_, _, rfl, parted0_fin (m := m) (pc := pc) (((((Keeps.refl [] w).alloc _).alloc _).alloc _).drew) ((Blk.fresh_at (w.alloc _) 55 _ (by simp)).alloc _).drew (((Blk.fresh_at w 55 _ rfl).alloc _).alloc _).drew (Blk.fresh_at ((w.alloc _).alloc _) 51 _ (by simp)).drew (by omega) (by omega) (by omega) hf hff hS hfp hps hkv hsr hge hfl hq (by omega) hm2 hm3 hm4 m0⟩
  · have n1 : ¬ ((16 : Int) < (ps.length : Int)) := by omega
    have n2 : ¬ ((16 : Int) < 0) := by omega
    go_enter Tryd.func35, Tryd.ntmps35
    go_wp2_with fail
    refine hlf.mono ?_
    rintro e w1 ⟨rfl, hw⟩
    obtain rfl := hw.symm
    go_wp2_with fail
    go_ret
    have hN := Blk.fresh w 51 (ptrs [⟨b, f, l⟩]).toArray
    refine ⟨w.heap.size, [⟨b, f, l⟩], rfl, ⟨hN, Nat.le_refl _, .inl rfl, fun c hc => ?_, by simp, rfl, by simp [flat], (Keeps.refl [] w).alloc _⟩⟩
    simp at hc
    subst hc
    have hk := (Keeps.refl [] w).alloc (.cells #[.pointer (some ⟨b, 0, none⟩)] 51)
    have h16' : NdAt w F 0 m0 16 b f l := ⟨fo, fc, po, pc, co, cc, ps, hB, hb, hf, hff, hS, hfp, hS0, hps, hkv, hsr, hge, hm0, by omega, hfl⟩
    exact (h16'.grow w).keep0 hk
end Go.Proofs.YtknnhnpcgefchaaDoor
