/- WalCuts: the walk. -/
import Derived.Test.YtfgmbjdeimallaaGreatWdZ

namespace Go.Proofs.YtfgmbjdeimallaaGreat
open Go.RowKit Go.Lib

/-- entries without text -/
def Bare (l : List Ent) : Prop := ∀ x ∈ l, x.May ∧ x.sql.size = 0
theorem Bare.sum : ∀ {l : List Ent}, Bare l → entSum l = 42 * l.length
  | [], _ => rfl
  | x :: l, h => by
    have ih := Bare.sum (l := l) (fun y hy => h y (.tail _ hy))
    have hx := (h x (.head _)).2
    simp only [entSum, List.map_cons, List.sum_cons, List.length_cons] at ih ⊢
    omega
theorem Bare.take {l : List Ent} (h : Bare l) (k : Nat) : Bare (l.take k) := fun x hx => h x (List.mem_of_mem_take hx)
theorem Bare.append {a b : List Ent} (h : Bare a) (h' : Bare b) : Bare (a ++ b) := fun x hx => (List.mem_append.1 hx).elim (h x) (h' x)
theorem bare_x (i : Nat) (hi : i < 1000) : Bare [(⟨i, 1, 0, i, ⟨#[]⟩⟩ : Ent), (⟨i, 1, 0, i, ⟨#[]⟩⟩ : Ent)] := fun x hx => by
  have : x = (⟨i, 1, 0, i, ⟨#[]⟩⟩ : Ent) := by simpa using hx
  subst this
  refine ⟨⟨?_, by simp only; omega, by simp, by simp only; omega⟩, rfl⟩
  simp [entOk, ByteArray.size]
theorem bare_9 : Bare [(⟨99, 0, 0, 0, ⟨#[]⟩⟩ : Ent)] := fun x hx => by
  have : x = (⟨99, 0, 0, 0, ⟨#[]⟩⟩ : Ent) := by simpa using hx
  subst this
  exact ⟨may_num 99 (by decide), rfl⟩
theorem re_own {w : World} {ao : Option Addr} {n c : Nat} {l : List Ent} (h : Re w ao c l) (hn : n = l.length) : Sl w 5 ao n c (ents l) := by subst hn; exact h

/-- the wal and what it should have -/
def CutAt (w1 wr : World) (db i wb : Nat) (has : List Ent) (ha : Option Addr) (hc : Nat) : Prop := ∃ L E d z may, Sure w1 wr wb db L E [] d (⟨0, -1, 0, 0, has⟩ : Ws) z may (100 + 40 * i) ∧ Re wr ha hc has ∧ (∀ ad, ha = some ad → Off wr wb L E ad.block) ∧ has.length ≤ 2 * i ∧ Bare has

set_option maxRecDepth 100000 in
set_option maxHeartbeats 8000000 in
theorem wlcuts (la : Option Addr) (lc : Nat) (l : List UInt8) (ka : Option Addr) (kc : Nat) (keep : List Int) (w : World) (hL : Rb w la lc l) (hK : Sl w 1 ka keep.length kc (keep.map (Value.int .i64))) :
    Calls Tryz.prog 3 #[.slice la l.length lc, .agg #[.slice ka keep.length kc]] w fun e w' => e = .returned (.bool true) ∧ Keeps [] w w' := by
  obtain ⟨iE, zE, hiE, hzE, hsE, hbE, hcE⟩ := infoEn
  have hX := Blk.fresh w 25 #[.slice ka keep.length kc]
  have hkX := (Keeps.refl [] w).alloc (.cells #[.slice ka keep.length kc] 25)
  have hL1 := hL.keep0 hkX
  have hK1 := hK.keep0 hkX
  obtain ⟨cb, hcb⟩ : ∃ cb, cb = w.heap.size := ⟨_, rfl⟩
  rw [← hcb] at hX
  have hKn : ∀ ad, ka = some ad → keep ≠ [] → ad.block < w.heap.size := fun ad e hne => hK.lt e (by simpa using hne)
  have H0 := Lib.hid (And.intro hX (And.intro hkX (And.intro hL1 (And.intro hK1 (And.intro hcb hKn)))))
  clear hX hkX hL1 hK1 hKn hL hK
  go_enter Tryz.func3, Tryz.ntmps3
  go_upto_region 1 with (fail)
  rw [← hcb]
  clear hcb
  generalize World.alloc w _ = w1 at *
  go_wp2_with fail
  refine (wlknown w1).mono ?_
  rintro e w2 ⟨rfl, hk2⟩
  have hcX := (H0.out.1.keep hk2 (by simp)).cell
  by_cases hbig : 25 < l.length
  · have n1 : (25 : Int) < (l.length : Int) := by omega
    have HF := Lib.hid (H0.out.2.1.trans hk2)
    go_wp2_with fail
    go_ret
    exact ⟨rfl, HF.out⟩
  have n1 : ¬ ((25 : Int) < (l.length : Int)) := by omega
  by_cases hbk : 60 < keep.length
  · have n2 : (60 : Int) < (keep.length : Int) := by omega
    have HF := Lib.hid (H0.out.2.1.trans hk2)
    go_wp2_with fail
    go_ret
    exact ⟨rfl, HF.out⟩
  have n2 : ¬ ((60 : Int) < (keep.length : Int)) := by omega
  have HK2 := Lib.hid hk2
  clear hk2
  go_wp2_with fail
  refine (dnew 65536 (by omega) w2).mono ?_
  rintro e w3 ⟨db, L1, rfl, hD, hk3, hLw⟩
  have hO := wopen hD (by decide) (wf_new 65536 (by omega) 0) rfl
  have hs2 := HK2.out.size
  have HO := Lib.hid (And.intro hO (And.intro (HK2.out.trans hk3) (fun x hx => Nat.le_trans hs2 (hLw x hx))))
  clear hO hD hk3 hLw hs2 hcX
  go_wp2_with fail
  refine HO.out.1.mono ?_
  intro e w4 hp
  obtain ⟨wb, L2, E2, d2, s2, z2, rfl, hs, hS⟩ := hp.sure HO.out.2.1 HO.out.2.2 rfl (n := 0) (Nat.le_refl _)
  obtain rfl : s2 = Ws.nil := by simpa using hs
  have HS := Lib.hid hS
  clear hp hs hS
  go_wp2_with fail
  go_loopw [6, 8, 9] (fun pw v ix wr => ∃ (wb i : Nat) (has : List Ent) (ha : Option Addr) (hc : Nat), pw = .pointer (some ⟨wb, 0, none⟩) ∧ v = .slice ha has.length hc ∧ ix = .int .i64 (i : Int) ∧ i ≤ l.length ∧ CutAt w1 wr db i wb has ha hc) (fun _ _ ix _ => l.length - (intOf ix).toNat)
  case atStart => exact ⟨wb, 0, [], none, 0, rfl, rfl, rfl, Nat.zero_le _, L2, E2, d2, z2, _, ⟨HS.out.disk, HS.out.wal, HS.out.wj, HS.out.halt, by have := HS.out.count; omega, HS.out.keeps, HS.out.low⟩, Sl.none _ _, by simp, by simp, fun x hx => by cases hx⟩
  case round =>
    obtain ⟨wb, i, has, ha, hc, rfl, rfl, rfl, hi, L, E, d, z, may, hS, hR, hoff, hlen, hbare⟩ := hrel
    have hL1 := H0.out.2.2.1.keep0 hS.keeps
    rcases (by omega : i < l.length ∨ i = l.length) with hil | rfl
    rotate_left
    · have n1 : ¬ ((l.length : Int) < (l.length : Int)) := by omega
      have HF := Lib.hid (H0.out.2.1.trans hS.keeps)
      clear hL1 hS hR hoff hbare
      go_wp2_with fail
      go_ret
      exact ⟨rfl, HF.out⟩
    have m1 : (i : Int) < (l.length : Int) := by omega
    have s1 : IntKind.i64.wrap ((i : Int) + 1) = i + 1 := IntWalk.i64_in _ (by omega)
    have hi25 : i < 25 := by omega
    obtain ⟨x8, hx8⟩ : ∃ x8 : UInt8, x8 = l[i] := ⟨_, rfl⟩
    obtain ⟨lb, lo, rfl⟩ := hL1.at (by have := hL1.cap; omega)
    have hcl : wr.cell? ⟨lb, lo + i, none⟩ = some (.int .u8 (x8.toNat : Nat)) := by
      have := hL1.cell _ rfl i (.int .u8 (l[i].toNat : Nat)) (bys_at hil)
      rw [hx8]
      exact this
    obtain ⟨x, hxn⟩ : ∃ x : Nat, x = x8.toNat := ⟨_, rfl⟩
    rw [← hxn] at hcl
    have hx256 : x < 256 := by rw [hxn]; exact x8.toNat_lt
    have hclg : ∀ W : World, Keeps [] w1 W → W.cell? ⟨lb, lo + i, none⟩ = some (.int .u8 (x : Nat)) := fun W hW => by
      have := (H0.out.2.2.1.keep0 hW).cell _ rfl i (.int .u8 (l[i].toNat : Nat)) (bys_at hil)
      rw [hxn, hx8]
      exact this
    have HCL := Lib.hid hclg
    clear hclg
    obtain ⟨k, hk⟩ : ∃ k, k = x % (has.length + 1) := ⟨_, rfl⟩
    have hkl : k ≤ has.length := by have := Nat.mod_lt x (show 0 < has.length + 1 by omega); omega
    have r1 : (x : Int).tmod ((has.length : Int) + 1) = (k : Int) := by
      rw [Int.tmod_eq_emod_of_nonneg (by omega), hk]
      exact (Int.natCast_emod x (has.length + 1)).symm
    have hXB := Blk.fresh wr 37 ((⟨i, 1, 0, i, ⟨#[]⟩⟩ : Ent)).cells
    have hkB := (Keeps.refl [] wr).alloc (.cells ((⟨i, 1, 0, i, ⟨#[]⟩⟩ : Ent)).cells 37)
    have hS1 := hS.keep0 hkB
    have hR1 := hR.keep0 hkB
    have hoff1 : ∀ ad, ha = some ad → Off (wr.alloc (.cells ((⟨i, 1, 0, i, ⟨#[]⟩⟩ : Ent)).cells 37)) wb L E ad.block := fun ad e => (hoff ad e).keep0 hkB
    have hoffX : Off (wr.alloc (.cells ((⟨i, 1, 0, i, ⟨#[]⟩⟩ : Ent)).cells 37)) wb L E wr.heap.size := hS.new (Nat.le_refl _) (by simp)
    have hclA : (wr.alloc (.cells ((⟨i, 1, 0, i, ⟨#[]⟩⟩ : Ent)).cells 37)).cell? ⟨lb, lo + i, none⟩ = some (.int .u8 (x : Nat)) := hkB.cellSome hcl (by simp)
    have hclB : (wr.alloc (.cells #[.int .u64 (i : Nat), .int .i64 1, .int .u64 0, .int .u64 (i : Nat), .string ⟨#[]⟩] 37)).cell? ⟨lb, lo + i, none⟩ = some (.int .u8 (x : Nat)) := hclA
    have HB := Lib.hid hbare
    have hmost := hR.cap
    have hmost2 := hR.most
    unfold maxLen at hmost2
    obtain ⟨xb, hxb⟩ : ∃ xb, xb = wr.heap.size := ⟨_, rfl⟩
    rw [← hxb] at hXB hoffX
    have HXB := Lib.hid hxb
    have H1 := Lib.hid (And.intro hS1 (And.intro hR1 (And.intro hoff1 (And.intro hoffX (And.intro hXB hclA)))))
    have m2 : ¬ ((has.length : Int) + 1 = 0) := by omega
    clear hL1 hS hR hoff hbare hx8 hxn hk hkB hS1 hR1 hoff1 hoffX hXB HS hxb
    go_upto_region 15 with (refine wpList_store_fresh rfl rfl _ _ _ rfl _ rfl rfl _ rfl _ _ Tryz.sizeE (by simp) rfl ?_)
    clear hclA hclB
    rw [← HXB.out]
    clear hcl
    generalize World.alloc wr _ = w2 at *
    obtain ⟨hS1, hR1, hoff1, hoffX, hXB, hclA⟩ := H1.out
    have hC := wcut_do (may' := (⟨0, -1, 0, 0, has.take k⟩ : Ws) :: may) hS1.wal hS1.disk okO_nil hS1.wj (by have := hS1.count; omega) (by show entSum has ≤ _; rw [HB.out.sum]; omega) (k + 1) (by simp [Ev.May, Ws.last]; omega) (fun x hx => .tail _ hx) (.head _)
    rw [show ((k + 1 : Nat) : Int) = (k : Int) + 1 from rfl] at hC
    have HC := Lib.hid hC
    clear hS1 hR1 hoff1 hoffX hXB hclA hC
    go_wp2_with fail
    refine HC.out.mono ?_
    intro e w3 hp
    obtain ⟨hS1, hR1, hoff1, hoffX, hXB, hclA⟩ := H1.out
    obtain ⟨L3, E3, d3, z3, rfl, hS30, hst3⟩ := hS1.did2 hp
    have hS3 : Sure w1 w3 wb db L3 E3 [] d3 (⟨0, -1, 0, 0, has.take k⟩ : Ws) z3 _ _ := hS30
    obtain ⟨hX3, hoX3⟩ := hst3.blk hoffX hXB
    obtain ⟨hR3, hof3⟩ := hst3.sl hoff1 hR1
    have hkL := (Keeps.refl [] w3).alloc (.cells #[.int .u64 (i : Nat), .int .i64 1, .int .u64 0, .int .u64 (i : Nat), .string ⟨#[]⟩, .int .u64 (i : Nat), .int .i64 1, .int .u64 0, .int .u64 (i : Nat), .string ⟨#[]⟩] 37)
    have hS4 := hS3.keep0 hkL
    have hR4 : Re _ _ 2 [(⟨i, 1, 0, i, ⟨#[]⟩⟩ : Ent), (⟨i, 1, 0, i, ⟨#[]⟩⟩ : Ent)] := re_lit (Blk.fresh w3 37 #[.int .u64 (i : Nat), .int .i64 1, .int .u64 0, .int .u64 (i : Nat), .string ⟨#[]⟩, .int .u64 (i : Nat), .int .i64 1, .int .u64 0, .int .u64 (i : Nat), .string ⟨#[]⟩]) (by simp [ents]) (by simp)
    have hlt3 := hS3.lt
    have hbx := bare_x i (by omega)
    have hA := wappend_do (may' := (⟨0, -1, 0, 0, has.take k⟩ : Ws) :: (⟨0, -1, 0, 0, has.take k ++ [(⟨i, 1, 0, i, ⟨#[]⟩⟩ : Ent)]⟩ : Ws) :: (⟨0, -1, 0, 0, has.take k ++ [(⟨i, 1, 0, i, ⟨#[]⟩⟩ : Ent), (⟨i, 1, 0, i, ⟨#[]⟩⟩ : Ent)]⟩ : Ws) :: (⟨0, -1, 0, 0, has.take k⟩ : Ws) :: may) hS4.wal hS4.disk okO_nil hS4.wj (by have := hS4.count; omega) (by show entSum (has.take k) ≤ _; rw [(HB.out.take k).sum]; simp; omega) _ 2 _ hR4 (fun x hx => (hbx x hx).1) (by rw [hbx.sum]; simp) (fun ad e _ hx => by cases e; exact absurd (hlt3 _ hx) (Nat.lt_irrefl _)) (fun x hx => .tail _ (.tail _ (.tail _ hx))) (by
      intro j hj
      simp only [List.length_cons, List.length_nil] at hj
      rcases (by omega : j = 0 ∨ j = 1 ∨ j = 2) with rfl | rfl | rfl <;> simp)
    have hst4 := (hst3).trans (Stays.of0 hkL)
    have HA := Lib.hid (And.intro hA (And.intro hS4 (And.intro (hX3.keep hkL (by simp)) (And.intro (hoX3.keep0 hkL) (And.intro (hR3.keep0 hkL) (fun ad e => (hof3 ad e).keep0 hkL))))))
    have hcX3 := hX3.cell
    clear hp hS1 hR1 hoff1 hoffX hXB hclA hS30 hst3 hS3 hoX3 hR3 hof3 hkL hS4 hR4 hlt3 hA hst4 HC
    go_wp2_with (refine wpList_load_aggG (by rfl) _ _ rfl xb 0 5 rfl 37 _ _ hX3 Tryz.underlying37 rfl Tryz.sizeE (by simp) _ rfl ?_)
    refine HA.out.1.mono ?_
    intro e w5 hp
    obtain ⟨hA, hS4, hX4, hoX4, hR4, hof4⟩ := HA.out
    obtain ⟨L5, E5, d5, z5, rfl, hS50, hst5⟩ := hS4.did2 hp
    have hS5 : Sure w1 w5 wb db L5 E5 [] d5 (⟨0, -1, 0, 0, has.take k ++ [(⟨i, 1, 0, i, ⟨#[]⟩⟩ : Ent), (⟨i, 1, 0, i, ⟨#[]⟩⟩ : Ent)]⟩ : Ws) z5 _ _ := hS50
    obtain ⟨hX5, hoX5⟩ := hst5.blk hoX4 hX4
    obtain ⟨hR5, hof5⟩ := hst5.sl hof4 hR4
    have HS5 := Lib.hid (And.intro (wsync_do hS5.wal hS5.disk hS5.wj (by have := hS5.count; omega)) (And.intro hS5 (And.intro hX5 (And.intro hoX5 (And.intro hR5 hof5)))))
    clear hp hA hS4 hX4 hoX4 hR4 hof4 hS50 hst5 hS5 hX5 hoX5 hR5 hof5 HA hcX3
    go_wp2_with fail
    refine HS5.out.1.mono ?_
    intro e w6 hp
    obtain ⟨-, hS5, hX5, hoX5, hR5, hof5⟩ := HS5.out
    obtain ⟨L6, E6, d6, rfl, hS6, hst6⟩ := hS5.synced2 hp
    obtain ⟨hX6, hoX6⟩ := hst6.blk hoX5 hX5
    obtain ⟨hR6, hof6⟩ := hst6.sl hof5 hR5
    have H6 := Lib.hid (And.intro hS6 (And.intro hX6 (And.intro hoX6 (And.intro hR6 hof6))))
    have hR6k := hR6.take (k := k) (c' := hc) (by simpa using hkl) (by omega) (Nat.le_refl _)
    have HR6 := Lib.hid hR6k
    have HX6 := Lib.hid hX6
    have hkd := (Keeps.refl [] w6).drew
    have hXd := hX6.drew
    clear hp hS5 hX5 hoX5 hR5 hof5 hst6 hS6 hX6 hoX6 hR6 hof6 HS5 hR6k
    have m3 : (0 : Int) ≤ (k : Int) := by omega
    have m4 : (k : Int) ≤ (hc : Int) := by omega
    have q1 : IntKind.u64.wrap (k : Int) = (k : Int) := IntWalk.u64_in _ (by omega)
    go_upto_region 17 with (fail)
    go_cut [8] (fun v wx => ∃ a c, v = .slice a (k + 2) c ∧ wx.ownsRow w6.heap.size 37 5 (.slice a (k + 2) c) (k + 2) (ents (has.take k ++ [(⟨i, 1, 0, i, ⟨#[]⟩⟩ : Ent), (⟨i, 1, 0, i, ⟨#[]⟩⟩ : Ent)])) ∧ Keeps [] w6 wx)
    case first =>
      have hR0 : ∀ W : World, Keeps [] w6 W → ∀ q ∈ [((5 : Nat), fun w0 : World => Blk w0 xb 37 ((⟨i, 1, 0, i, ⟨#[]⟩⟩ : Ent)).cells), ((6 : Nat), fun w0 : World => Blk w0 xb 37 ((⟨i, 1, 0, i, ⟨#[]⟩⟩ : Ent)).cells)], q.2 W := fun W hW q hq => by
        simp only [List.mem_cons, List.not_mem_nil, or_false] at hq
        rcases hq with rfl | rfl <;> exact HX6.out.keep hW (by simp)
      have HR0 := Lib.hid hR0
      have hSw := HR0.out _ hkd
      clear hR0 hXd
      refine startU [((5 : Nat), fun w0 : World => Blk w0 xb 37 ((⟨i, 1, 0, i, ⟨#[]⟩⟩ : Ent)).cells), ((6 : Nat), fun w0 : World => Blk w0 xb 37 ((⟨i, 1, 0, i, ⟨#[]⟩⟩ : Ent)).cells)] (by kernel_rfl) ?_
      generalize World.drew w6 = w7 at *
      refine takeU (i := 0) (v := ?_) rfl (by kernel_rfl) (fun _ _ _ h => h) (Or.inl ⟨by rfl, fun w0 hw0 => ?_⟩) (fun p hp _ => hSw p hp) ?_
      rotate_left
      · simp [Reads] at hw0
        go_simp
        try with_reducible rfl
      try go_simp
      refine takeU (i := 1) (v := ?_) rfl (by kernel_rfl) (fun _ _ _ h => h) (Or.inl ⟨by rfl, fun w0 hw0 => ?_⟩) (fun p hp _ => hSw p hp) ?_
      rotate_left
      · simp [Reads] at hw0
        go_simp
        try with_reducible rfl
      try go_simp
      refine takeU (i := 2) (v := ?_) rfl (by kernel_rfl) (fun _ _ _ h => h) (Or.inl ⟨by rfl, fun w0 hw0 => ?_⟩) (fun p hp _ => hSw p hp) ?_
      rotate_left
      · simp [Reads] at hw0
        go_simp
        try with_reducible rfl
      try go_simp
      refine takeU (i := 3) (v := ?_) rfl (by kernel_rfl) (fun _ _ _ h => h) (Or.inl ⟨by rfl, fun w0 hw0 => ?_⟩) (fun p hp _ => hSw p hp) ?_
      rotate_left
      · simp [Reads] at hw0
        go_simp
        try with_reducible rfl
      try go_simp
      refine takeU (i := 5) (v := .agg ((⟨i, 1, 0, i, ⟨#[]⟩⟩ : Ent)).cells) rfl (by kernel_rfl) (fun _ _ _ h => h) (Or.inl ⟨by rfl, fun w0 hw0 => ?_⟩) (fun p hp _ => hSw p hp) ?_
      · simp [Reads] at hw0
        exact load_yieldsW 37 (.tmp 10) rfl xb 0 5 rfl 37 _ _ hw0 Tryz.underlying37 rfl Tryz.sizeE (by simp) _ rfl
      refine takeU (i := 6) (v := .agg ((⟨i, 1, 0, i, ⟨#[]⟩⟩ : Ent)).cells) rfl (by kernel_rfl) (fun _ _ _ h => h) (Or.inl ⟨by rfl, fun w0 hw0 => ?_⟩) (fun p hp _ => hSw p hp) ?_
      · simp [Reads] at hw0
        exact load_yieldsW 37 (.tmp 10) rfl xb 0 5 rfl 37 _ _ hw0 Tryz.underlying37 rfl Tryz.sizeE (by simp) _ rfl
      clear hSw
      refine twoU (i := 4) (j := 7) rfl rfl (by kernel_rfl) (fun K hK => ?_) (fun K hK => ?_)
      · refine step_append_by rfl _ _ 34 34 rfl w6.heap.size 37 iE zE 5 48 Tryz.underlying34 hiE hzE hsE hbE hcE none 0 0 [] rfl (World.ownsRow_nil _ _ _ _) _ rfl k _ ((HR6.out.keep0 hkd).src Tryz.underlying34) (by unfold maxLen; omega) (by omega) hkd.size ?_
        intro a7 c7 w8 hO7 hk7 hb7
        have hk7x := hkd.trans hk7
        refine hK _ _ (fun q hq _ _ => HR0.out _ hk7x q hq) ?_
        rw [Nat.zero_add, List.nil_append, ents_take] at hO7
        try simp only [Nat.zero_add]
        clear hK K hk7 hb7
        try go_simp
        refine oneU (i := 7) rfl (by kernel_rfl) (fun K hK => ?_)
        go_simp
        have hk8 := hk7x.alloc (.cells #[.int .u64 (i : Nat), .int .i64 1, .int .u64 0, .int .u64 (i : Nat), .string ⟨#[]⟩, .int .u64 (i : Nat), .int .i64 1, .int .u64 0, .int .u64 (i : Nat), .string ⟨#[]⟩] 37)
        have hkL := (Keeps.refl [] w8).alloc (.cells #[.int .u64 (i : Nat), .int .i64 1, .int .u64 0, .int .u64 (i : Nat), .string ⟨#[]⟩, .int .u64 (i : Nat), .int .i64 1, .int .u64 0, .int .u64 (i : Nat), .string ⟨#[]⟩] 37)
        have hR8 : Re _ _ 2 [(⟨i, 1, 0, i, ⟨#[]⟩⟩ : Ent), (⟨i, 1, 0, i, ⟨#[]⟩⟩ : Ent)] := re_lit (Blk.fresh w8 37 #[.int .u64 (i : Nat), .int .i64 1, .int .u64 0, .int .u64 (i : Nat), .string ⟨#[]⟩, .int .u64 (i : Nat), .int .i64 1, .int .u64 0, .int .u64 (i : Nat), .string ⟨#[]⟩]) (by simp [ents]) (by simp)
        refine hK _ _ (fun q hq _ _ => HR0.out _ hk8 q hq) ?_
        clear hK K
        have hO8 := ownsRow_keep hO7 hkL (by simp)
        have hR8x := hR8
        clear hO7
        refine oneU (i := 8) rfl (by kernel_rfl) (fun K hK => ?_)
        refine step_append_by rfl _ _ 34 34 rfl w6.heap.size 37 iE zE 5 48 Tryz.underlying34 hiE hzE hsE hbE hcE a7 k c7 _ rfl hO8 _ rfl 2 _ (hR8x.src Tryz.underlying34) (by unfold maxLen; omega) (by omega) hk8.size ?_
        intro a9 c9 w9 hO9 hk9 hb9
        have hk09 : Keeps [] w6 w9 := hk8.step hk9 (fun y hy => .inr (ownsRow_lt hO8 y hy).1)
        refine hK _ _ (fun q hq _ _ => HR0.out _ hk09 q hq) ?_
        clear hK K
        have hSw := HR0.out _ hk09
        try go_simp
        refine takeU (i := 9) (v := ?_) rfl (by kernel_rfl) (fun _ _ _ h => h) (Or.inl ⟨by rfl, fun w0 hw0 => ?_⟩) (fun p hp _ => hSw p hp) ?_
        rotate_left
        · simp [Reads] at hw0
          go_simp
          try with_reducible rfl
        try go_simp
        refine doneU (by kernel_rfl) ?_
        go_wp2_with fail
        go_meet
        refine ⟨a9, c9, rfl, ?_, hk09⟩
        rw [ents_append]
        exact hO9
      · go_simp
        have hk7x := hkd.alloc (.cells #[.int .u64 (i : Nat), .int .i64 1, .int .u64 0, .int .u64 (i : Nat), .string ⟨#[]⟩, .int .u64 (i : Nat), .int .i64 1, .int .u64 0, .int .u64 (i : Nat), .string ⟨#[]⟩] 37)
        have hkL := (Keeps.refl [] w7).alloc (.cells #[.int .u64 (i : Nat), .int .i64 1, .int .u64 0, .int .u64 (i : Nat), .string ⟨#[]⟩, .int .u64 (i : Nat), .int .i64 1, .int .u64 0, .int .u64 (i : Nat), .string ⟨#[]⟩] 37)
        have hR8 : Re _ _ 2 [(⟨i, 1, 0, i, ⟨#[]⟩⟩ : Ent), (⟨i, 1, 0, i, ⟨#[]⟩⟩ : Ent)] := re_lit (Blk.fresh w7 37 #[.int .u64 (i : Nat), .int .i64 1, .int .u64 0, .int .u64 (i : Nat), .string ⟨#[]⟩, .int .u64 (i : Nat), .int .i64 1, .int .u64 0, .int .u64 (i : Nat), .string ⟨#[]⟩]) (by simp [ents]) (by simp)
        refine hK _ _ (fun q hq _ _ => HR0.out _ hk7x q hq) ?_
        clear hK K
        generalize World.alloc w7 _ = w8 at *
        refine oneU (i := 4) rfl (by kernel_rfl) (fun K hK => ?_)
        refine step_append_by rfl _ _ 34 34 rfl w6.heap.size 37 iE zE 5 48 Tryz.underlying34 hiE hzE hsE hbE hcE none 0 0 [] rfl (World.ownsRow_nil _ _ _ _) _ rfl k _ ((HR6.out.keep0 hk7x).src Tryz.underlying34) (by unfold maxLen; omega) (by omega) hk7x.size ?_
        intro a7 c7 w9x hO7 hk7 hb7
        have hk8 := hk7x.trans hk7
        refine hK _ _ (fun q hq _ _ => HR0.out _ hk8 q hq) ?_
        rw [Nat.zero_add, List.nil_append, ents_take] at hO7
        try simp only [Nat.zero_add]
        clear hK K hb7
        try go_simp
        have hO8 := hO7
        have hR8x := hR8.keep0 hk7
        refine oneU (i := 8) rfl (by kernel_rfl) (fun K hK => ?_)
        refine step_append_by rfl _ _ 34 34 rfl w6.heap.size 37 iE zE 5 48 Tryz.underlying34 hiE hzE hsE hbE hcE a7 k c7 _ rfl hO8 _ rfl 2 _ (hR8x.src Tryz.underlying34) (by unfold maxLen; omega) (by omega) hk8.size ?_
        intro a9 c9 w9 hO9 hk9 hb9
        have hk09 : Keeps [] w6 w9 := hk8.step hk9 (fun y hy => .inr (ownsRow_lt hO8 y hy).1)
        refine hK _ _ (fun q hq _ _ => HR0.out _ hk09 q hq) ?_
        clear hK K
        have hSw := HR0.out _ hk09
        try go_simp
        refine takeU (i := 9) (v := ?_) rfl (by kernel_rfl) (fun _ _ _ h => h) (Or.inl ⟨by rfl, fun w0 hw0 => ?_⟩) (fun p hp _ => hSw p hp) ?_
        rotate_left
        · simp [Reads] at hw0
          go_simp
          try with_reducible rfl
        try go_simp
        refine doneU (by kernel_rfl) ?_
        go_wp2_with fail
        go_meet
        refine ⟨a9, c9, rfl, ?_, hk09⟩
        rw [ents_append]
        exact hO9
    case rest =>
    obtain ⟨a8, c8, rfl, hO8, hk8⟩ := hcut
    generalize wc = w8 at *
    obtain ⟨g, hg⟩ : ∃ g, g = has.take k ++ [(⟨i, 1, 0, i, ⟨#[]⟩⟩ : Ent), (⟨i, 1, 0, i, ⟨#[]⟩⟩ : Ent)] := ⟨_, rfl⟩
    have hgl : k + 2 = g.length := by rw [hg]; simp; omega
    have hgb : Bare g := by rw [hg]; exact (HB.out.take k).append (bare_x i (by omega))
    rw [← hg, hgl] at hO8
    obtain ⟨hS6, -, -, -, -⟩ := H6.out
    rw [← hg] at hS6
    have hS8 := hS6.keep0 hk8
    have hR8 : Re w8 a8 c8 g := sl_of_ownW hO8 (ents_one _)
    have hof8 : ∀ ad, a8 = some ad → Off w8 wb L6 E6 ad.block := fun ad e => by
      have := ownsRow_lt hO8 ad.block (by rw [e]; simp)
      exact hS6.new this.1 this.2
    have hcl8 := HCL.out w8 hS8.keeps
    have hgl2 : g.length ≤ 2 * (i + 1) := by omega
    have H8 := Lib.hid (And.intro hS8 (And.intro hR8 (And.intro hof8 (And.intro hgb hgl2))))
    rw [hgl]
    obtain ⟨q, hq⟩ : ∃ q : Bool, q = ((x : Int) / 32 % 2 == 0) := ⟨_, rfl⟩
    have HQ := Lib.hid hq
    clear hq hO8 hk8 hg hgl hgb hS6 hS8 hR8 hof8 hkd hXd q1 hgl2
    go_upto_region 18 with (fail)
    go_cut [90] (fun v wx => v = .bool q ∧ wx = w8)
    case first =>
      go_wp2_with fail
      go_meet
      exact ⟨by rw [HQ.out], rfl⟩
    case rest =>
    obtain ⟨rfl, hw⟩ := hcut
    obtain rfl := hw.symm
    go_upto_if 90 with (fail)
    go_cut [6] (fun pw wx => ∃ wb', pw = .pointer (some ⟨wb', 0, none⟩) ∧ CutAt w1 wx db (i + 1) wb' g a8 c8)
    case first =>
      cases q with
      | false =>
        go_wp2_with fail
        go_meet
        obtain ⟨hS8, hR8, hof8, hgb, hgl2⟩ := H8.out
        exact ⟨wb, rfl, L6, E6, d6, z5, _, ⟨hS8.disk, hS8.wal, hS8.wj, hS8.halt, by have := hS8.count; omega, hS8.keeps, hS8.low⟩, hR8, hof8, hgl2, hgb⟩
      | true =>
        obtain ⟨hS8, hR8, hof8, hgb, hgl2⟩ := H8.out
        have hkL := (Keeps.refl [] w8).alloc (.cells #[.int .u64 99, .int .i64 0, .int .u64 0, .int .u64 0, .string ⟨#[]⟩] 37)
        have hS9 := hS8.keep0 hkL
        have hR9 : Re _ _ 1 [(⟨99, 0, 0, 0, ⟨#[]⟩⟩ : Ent)] := re_lit (Blk.fresh w8 37 #[.int .u64 99, .int .i64 0, .int .u64 0, .int .u64 0, .string ⟨#[]⟩]) (by simp [ents]) (by simp)
        have hlt8 := hS8.lt
        have hA := wappend_do (may' := [(⟨0, -1, 0, 0, g⟩ : Ws), (⟨0, -1, 0, 0, g ++ [(⟨99, 0, 0, 0, ⟨#[]⟩⟩ : Ent)]⟩ : Ws)]) hS9.wal hS9.disk okO_nil hS9.wj (by have := hS9.count; omega) (by show entSum g ≤ _; rw [hgb.sum]; omega) _ 1 _ hR9 (fun x hx => (bare_9 x hx).1) (by rw [bare_9.sum]; simp) (fun ad e _ hx => by cases e; exact absurd (hlt8 _ hx) (Nat.lt_irrefl _)) (fun x hx => by simp at hx; subst hx; exact .head _) (by
          intro j hj
          simp only [List.length_cons, List.length_nil] at hj
          rcases (by omega : j = 0 ∨ j = 1) with rfl | rfl <;> simp)
        have HA := Lib.hid (And.intro hA (And.intro hS9 (And.intro (hR8.keep0 hkL) (fun ad e => (hof8 ad e).keep0 hkL))))
        clear hS8 hR8 hof8 hgb hgl2 hkL hS9 hR9 hlt8 hA hcl8
        go_wp2_with fail
        refine HA.out.1.mono ?_
        intro e w10 hp
        obtain ⟨-, hS9, hR9, hof9⟩ := HA.out
        obtain ⟨L10, E10, d10, z10, rfl, hS100, hst10⟩ := hS9.did2 hp
        have hS10 : Sure w1 w10 wb db L10 E10 [] d10 (⟨0, -1, 0, 0, g ++ [(⟨99, 0, 0, 0, ⟨#[]⟩⟩ : Ent)]⟩ : Ws) z10 _ _ := hS100
        obtain ⟨hR10, hof10⟩ := hst10.sl hof9 hR9
        have hX10 := H0.out.1.keep hS10.keeps (by simp)
        have hCr := dcrash hS10.disk keep (H0.out.2.2.2.1.keep0 hS10.keeps) (fun ad e hne hx => by
          have h1 := H0.out.2.2.2.2.2 ad e hne
          have h2 := hS10.low ad.block (.tail _ (List.mem_append.2 (.inl hx)))
          have h3 := H0.out.2.1.size
          omega)
        have HC := Lib.hid (And.intro hCr (And.intro hS10 (And.intro hR10 hof10)))
        have hcX := hX10.cell
        clear hp hS9 hR9 hof9 hS100 hst10 hS10 hR10 hof10 hX10 hCr HA
        go_wp2_with fail
        refine HC.out.1.mono ?_
        rintro e w11 ⟨rfl, hD11, hk11⟩
        have HO := Lib.hid (HC.out.2.1.reopen okO_nil (by omega) hD11 hk11)
        clear hD11 hk11 hcX
        go_wp2_with fail
        refine HO.out.mono ?_
        rintro e w12 ⟨wb2, L12, E12, d12, s12, z12, rfl, hs12, hS12, hst12⟩
        obtain ⟨hR12, hof12⟩ := hst12.sl HC.out.2.2.2 HC.out.2.2.1
        have hs' : s12 = (⟨0, -1, 0, 0, g⟩ : Ws) ∨ s12 = (⟨0, -1, 0, 0, g ++ [(⟨99, 0, 0, 0, ⟨#[]⟩⟩ : Ent)]⟩ : Ws) := by simpa using hs12
        have H12 := Lib.hid (And.intro hS12 (And.intro hR12 hof12))
        clear hs12 hS12 hst12 hR12 hof12 HC HO
        rcases hs' with rfl | rfl
        · have hgl3 := H8.out.2.2.2.2
          have HE := Lib.hid (wentries H12.out.1.wal (by show g.length ≤ _; omega))
          go_wp2_with fail
          refine HE.out.mono ?_
          rintro e w13 ⟨b13, c13, rfl, hO13, hk13⟩
          have n3 : ¬ ((g.length : Int) = (g.length : Int) + 1) := by omega
          clear hO13
          go_wp2_with fail
          go_meet
          obtain ⟨hS12, hR12, hof12⟩ := H12.out
          have hS13 := hS12.keep0 hk13
          exact ⟨wb2, rfl, L12, E12, d12, z12, _, ⟨hS13.disk, hS13.wal, hS13.wj, hS13.halt, by have := hS13.count; omega, hS13.keeps, hS13.low⟩, hR12.keep0 hk13, fun ad e => (hof12 ad e).keep0 hk13, H8.out.2.2.2.2, H8.out.2.2.2.1⟩
        · have hgl3 := H8.out.2.2.2.2
          have hgc : g.length ≤ 1000 := by omega
          have hE : Calls Tryz.prog 12 #[.pointer (some ⟨wb2, 0, none⟩)] w12 fun e w' => ∃ bo d, e = .returned (.slice bo (g.length + 1) d) ∧ Re w' bo d (g ++ [(⟨99, 0, 0, 0, ⟨#[]⟩⟩ : Ent)]) ∧ Keeps [] w12 w' := by
            refine (wentries H12.out.1.wal (by show (g ++ [(⟨99, 0, 0, 0, ⟨#[]⟩⟩ : Ent)]).length ≤ _; simp; omega)).mono ?_
            rintro e w' ⟨bo, d, rfl, hO, hk⟩
            refine ⟨bo, d, by simp, sl_of_ownW hO (ents_one _), hk⟩
          have HE := Lib.hid hE
          clear hE
          go_wp2_with fail
          refine HE.out.mono ?_
          rintro e w13 ⟨b13, c13, rfl, hR13, hk13⟩
          obtain ⟨yb, yo, rfl, e0, e1, e2, e3, e4⟩ := Re.at hR13 (k := g.length) (e := (⟨99, 0, 0, 0, ⟨#[]⟩⟩ : Ent)) (by simp)
          have hS13 := H12.out.1.keep0 hk13
          have hC := wcut_do (may' := [(⟨0, -1, 0, 0, g⟩ : Ws), (⟨0, -1, 0, 0, g ++ [(⟨99, 0, 0, 0, ⟨#[]⟩⟩ : Ent)]⟩ : Ws)]) hS13.wal hS13.disk okO_nil hS13.wj (by have := hS13.count; omega) (by show entSum (g ++ [(⟨99, 0, 0, 0, ⟨#[]⟩⟩ : Ent)]) ≤ _; rw [(H8.out.2.2.2.1.append bare_9).sum]; simp; omega) (g.length + 1) (by simp [Ev.May, Ws.last]) (fun x hx => by simp at hx; subst hx; simp) (by simp [Ws.ev])
          rw [show ((g.length + 1 : Nat) : Int) = (g.length : Int) + 1 from rfl] at hC
          have HC := Lib.hid (And.intro hC (And.intro hS13 hk13))
          have hcap := hR13.cap
          simp only [List.length_append, List.length_cons, List.length_nil] at hcap
          clear hR13 hS13 hC hk13
          go_wp2_with fail
          refine HC.out.1.mono ?_
          intro e w14 hp
          obtain ⟨L14, E14, d14, z14, rfl, hS140, hst14⟩ := HC.out.2.1.did2 hp
          rw [show Ws.ev (⟨0, -1, 0, 0, g ++ [(⟨99, 0, 0, 0, ⟨#[]⟩⟩ : Ent)]⟩ : Ws) (.cut (g.length + 1)) = (⟨0, -1, 0, 0, g⟩ : Ws) by simp [Ws.ev]] at hS140
          obtain ⟨hR14, hof14⟩ := hst14.sl (fun ad e => (H12.out.2.2 ad e).keep0 HC.out.2.2) (H12.out.2.1.keep0 HC.out.2.2)
          have HS := Lib.hid (And.intro (wsync_do hS140.wal hS140.disk hS140.wj (by have := hS140.count; omega)) (And.intro hS140 (And.intro hR14 hof14)))
          clear hp hS140 hst14 hR14 hof14 HC e0 e1 e2 e3 e4
          go_wp2_with fail
          refine HS.out.1.mono ?_
          intro e w15 hp
          obtain ⟨L15, E15, d15, rfl, hS15, hst15⟩ := HS.out.2.1.synced2 hp
          obtain ⟨hR15, hof15⟩ := hst15.sl HS.out.2.2.2 HS.out.2.2.1
          have H15 := Lib.hid (And.intro hS15 (And.intro hR15 hof15))
          clear hp hS15 hst15 hR15 hof15 HS
          go_wp2_with fail
          go_meet
          obtain ⟨hS15, hR15, hof15⟩ := H15.out
          exact ⟨wb2, rfl, L15, E15, d15, z14, _, ⟨hS15.disk, hS15.wal, hS15.wj, hS15.halt, by have := hS15.count; omega, hS15.keeps, hS15.low⟩, hR15, hof15, H8.out.2.2.2.2, H8.out.2.2.2.1⟩
    case rest =>
    obtain ⟨wb3, rfl, L16, E16, d16, z16, may16, hS16, hR16, hof16, hgl3, hgb⟩ := hcut
    generalize wc = w16 at *
    have HE := Lib.hid (And.intro (wentries hS16.wal (by show g.length ≤ _; omega)) (And.intro hS16 (And.intro hR16 hof16)))
    have HG := Lib.hid (And.intro hgl3 hgb)
    clear hS16 hR16 hof16 hgl3 hgb
    go_wp2_with fail
    refine HE.out.1.mono ?_
    rintro e w17 ⟨b17, c17, rfl, hO17, hk17⟩
    have hR17 : Re w17 b17 c17 g := sl_of_ownW hO17 (ents_one _)
    have HM := Lib.hid (And.intro (ents_same b17 a8 c17 c8 g w17 hR17 (HE.out.2.2.1.keep0 hk17)) hk17)
    clear hO17 hR17 hk17
    go_wp2_with fail
    refine HM.out.1.mono ?_
    rintro e w18 ⟨rfl, hk18⟩
    have HK := Lib.hid (HM.out.2.trans hk18)
    clear hk18
    go_wp2_with fail
    go_roundw
    case rel =>
      obtain ⟨-, hS16, hR16, hof16⟩ := HE.out
      exact ⟨wb3, i + 1, g, a8, c8, rfl, rfl, by simp, by omega, L16, E16, d16, z16, may16, hS16.keep0 HK.out, hR16.keep0 HK.out, fun ad e => (hof16 ad e).keep0 HK.out, HG.out.1, HG.out.2⟩
    case measure => simp [intOf]; omega
end Go.Proofs.YtfgmbjdeimallaaGreat
