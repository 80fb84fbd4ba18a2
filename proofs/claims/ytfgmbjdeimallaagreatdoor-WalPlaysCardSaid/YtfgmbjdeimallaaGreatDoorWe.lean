/- Entries as bytes: PutEntry of the program and of the document. -/
import Derived.Test.YtfgmbjdeimallaaGreatDoorWfZ

namespace Go.Proofs.YtfgmbjdeimallaaGreatDoor
open Go.RowKit Go.Lib

theorem rdsE2_0 {i0 i1 : Nat} {xb t cl sq : Nat} {kd : Int} {s : ByteArray} {w' : World} (hX : Blk w' xb 65 #[.int .u64 (t : Nat), .int .i64 kd, .int .u64 (cl : Nat), .int .u64 (sq : Nat), .string s]) : ∀ p ∈ [(i0, fun w0 : World => w0.cell? ⟨xb, 0, none⟩ = some (.int .u64 (t : Nat))), (i1, fun w0 : World => w0.cell? ⟨xb, 1, none⟩ = some (.int .i64 kd))], p.2 w' := by
  intro p hp
  simp at hp
  rcases hp with rfl | rfl <;> (simp only []; rw [hX.cell]; rfl)
theorem rdsE2_2 {i0 i1 : Nat} {xb t cl sq : Nat} {kd : Int} {s : ByteArray} {w' : World} (hX : Blk w' xb 65 #[.int .u64 (t : Nat), .int .i64 kd, .int .u64 (cl : Nat), .int .u64 (sq : Nat), .string s]) : ∀ p ∈ [(i0, fun w0 : World => w0.cell? ⟨xb, 2, none⟩ = some (.int .u64 (cl : Nat))), (i1, fun w0 : World => w0.cell? ⟨xb, 3, none⟩ = some (.int .u64 (sq : Nat)))], p.2 w' := by
  intro p hp
  simp at hp
  rcases hp with rfl | rfl <;> (simp only []; rw [hX.cell]; rfl)
theorem rdsE3_2 {i0 i1 i2 : Nat} {xb t cl sq : Nat} {kd : Int} {s : ByteArray} {w' : World} (hX : Blk w' xb 65 #[.int .u64 (t : Nat), .int .i64 kd, .int .u64 (cl : Nat), .int .u64 (sq : Nat), .string s]) : ∀ p ∈ [(i0, fun w0 : World => w0.cell? ⟨xb, 2, none⟩ = some (.int .u64 (cl : Nat))), (i1, fun w0 : World => w0.cell? ⟨xb, 3, none⟩ = some (.int .u64 (sq : Nat))), (i2, fun w0 : World => w0.cell? ⟨xb, 4, none⟩ = some (.string s))], p.2 w' := by
  intro p hp
  simp at hp
  rcases hp with rfl | rfl | rfl <;> (simp only []; rw [hX.cell]; rfl)

/-- an entry -/
structure Ent where
  term : Nat
  kind : Int
  client : Nat
  seq : Nat
  sql : ByteArray
abbrev Ent.cells (e : Ent) : Array Value := #[.int .u64 (e.term : Nat), .int .i64 e.kind, .int .u64 (e.client : Nat), .int .u64 (e.seq : Nat), .string e.sql]
/-- may an entry be? -/
def entOk (e : Ent) : Bool := decide (e.sql.size ≤ 2000) && (if e.kind = 0 then decide (e.client = 0) && decide (e.seq = 0) && e.sql.toList.isEmpty else decide (e.kind = 1))
/-- its bytes -/
def putE (e : Ent) : List UInt8 := uvarint e.term ++ [UInt8.ofNat (e.kind % 256).toNat] ++ (if e.kind = 1 then uvarint e.client ++ uvarint e.seq ++ (uvarint e.sql.size ++ e.sql.data.toList) else [])
theorem kindByte (kd : Int) : IntKind.u8.wrap kd = (((UInt8.ofNat (kd % 256).toNat).toNat : Nat) : Int) := by
  rw [UInt8.toNat_ofNat', IntKind.wrap_u8']
  omega

set_option maxRecDepth 100000 in
set_option maxHeartbeats 8000000 in
theorem putEntry_any (t : Nat) (kd : Int) (cl sq : Nat) (s : ByteArray) (w : World) (ht : t < 18446744073709551616) (hcl : cl < 18446744073709551616) (hsq : sq < 18446744073709551616) :
    Calls Tryz.prog 58 #[.agg #[.int .u64 (t : Nat), .int .i64 kd, .int .u64 (cl : Nat), .int .u64 (sq : Nat), .string s]] w fun e w' => ∃ bo d ev, e = .returned (.tuple #[.slice bo (if entOk ⟨t, kd, cl, sq, s⟩ then putE ⟨t, kd, cl, sq, s⟩ else []).length d, ev]) ∧ Own w' w.heap.size bo d (if entOk ⟨t, kd, cl, sq, s⟩ then putE ⟨t, kd, cl, sq, s⟩ else []) ∧ ErrF w' ev (if entOk ⟨t, kd, cl, sq, s⟩ then 0 else 20) ∧ Keeps [] w w' := by
  obtain ⟨i, z, hi, hz, hsz, hby, hzc⟩ := infoB
  generalize hres : (if entOk ⟨t, kd, cl, sq, s⟩ then putE ⟨t, kd, cl, sq, s⟩ else []) = res
  generalize hcls : (if entOk ⟨t, kd, cl, sq, s⟩ then 0 else 20) = cls
  unfold entOk putE at hres
  unfold entOk at hcls
  simp only at hres hcls
  have hX := Blk.fresh w 65 #[.int .u64 (t : Nat), .int .i64 kd, .int .u64 (cl : Nat), .int .u64 (sq : Nat), .string s]
  have hkx := (Keeps.refl [] w).alloc (.cells #[.int .u64 (t : Nat), .int .i64 kd, .int .u64 (cl : Nat), .int .u64 (sq : Nat), .string s] 65)
  by_cases h2k : 2000 < s.size
  · have hd : decide (s.size ≤ 2000) = false := by simp; omega
    rw [hd, Bool.false_and] at hres hcls
    simp only [Bool.false_eq_true, if_false] at hres hcls
    subst hres hcls
    have n1 : (2000 : Int) < (s.size : Int) := by omega
    go_enter Tryz.func58, Tryz.ntmps58
    go_wp2_with fail
    refine (wform _ _).mono ?_
    rintro e w1 ⟨g, rfl, hE, hk1⟩
    go_wp2_with fail
    go_ret2
    exact ⟨none, 0, _, rfl, Own.nil _ _, ErrF.of hE (by simp), hkx.trans hk1⟩
  have hd : decide (s.size ≤ 2000) = true := by simp; omega
  rw [hd, Bool.true_and] at hres hcls
  have n1 : ¬ ((2000 : Int) < (s.size : Int)) := by omega
  have qk := kindByte kd
  generalize UInt8.ofNat (kd % 256).toNat = kb at *
  have HR := Lib.hid hres
  have HC := Lib.hid hcls
  clear hres hcls hd
  go_enter Tryz.func58, Tryz.ntmps58
  go_upto_region 1 with (fail)
  generalize World.alloc w _ = w1 at *
  generalize hxe : w.heap.size = xb at hX
  have hcX := hX.cell
  have hlX := hX.lt
  go_upto_region 3 with (fail)
  obtain ⟨l0, hl0⟩ : ∃ l0, l0 = uvarint t ++ [kb] := ⟨_, rfl⟩
  have HL0 := Lib.hid hl0
  clear hl0
  go_cut [4] (fun v wx => ∃ ao c, v = .slice ao l0.length c ∧ Own wx xb ao c l0 ∧ Blk wx xb 65 #[.int .u64 (t : Nat), .int .i64 kd, .int .u64 (cl : Nat), .int .u64 (sq : Nat), .string s] ∧ Keeps [] w wx)
  case first =>
    have hSw := rdsE2_0 (i0 := 1) (i1 := 4) hX.drew
    have hlX := hX.lt
    have hul := uvarint_length64 ht
    refine startU [((1 : Nat), fun w0 : World => w0.cell? ⟨xb, 0, none⟩ = some (.int .u64 (t : Nat))), ((4 : Nat), fun w0 : World => w0.cell? ⟨xb, 1, none⟩ = some (.int .i64 kd))] (by kernel_rfl) ?_
    refine takeU (i := 0) (v := ?_) rfl (by kernel_rfl) (fun _ _ _ h => h) (Or.inl ⟨by rfl, fun w0 hw0 => ?_⟩) (fun p hp _ => hSw p hp) ?_
    rotate_left
    · simp [Reads] at hw0
      go_simp
      try with_reducible rfl
    try go_simp
    refine takeU (i := 1) (v := ?_) rfl (by kernel_rfl) (fun _ _ _ h => h) (Or.inl ⟨by rfl, fun w0 hw0 => ?_⟩) (fun p hp _ => hSw p hp) ?_
    rotate_left
    · simp [Reads] at hw0
      go_simp
      try with_reducible rfl
    try go_simp
    refine takeU (i := 3) (v := ?_) rfl (by kernel_rfl) (fun _ _ _ h => h) (Or.inl ⟨by rfl, fun w0 hw0 => ?_⟩) (fun p hp _ => hSw p hp) ?_
    rotate_left
    · simp [Reads] at hw0
      go_simp
      try with_reducible rfl
    try go_simp
    refine takeU (i := 4) (v := ?_) rfl (by kernel_rfl) (fun _ _ _ h => h) (Or.inl ⟨by rfl, fun w0 hw0 => ?_⟩) (fun p hp _ => hSw p hp) ?_
    rotate_left
    · simp [Reads] at hw0
      go_simp
      try with_reducible rfl
    try go_simp
    refine takeU (i := 5) (v := ?_) rfl (by kernel_rfl) (fun _ _ _ h => h) (Or.inl ⟨by rfl, fun w0 hw0 => ?_⟩) (fun p hp _ => hSw p hp) ?_
    rotate_left
    · simp [Reads] at hw0
      go_simp
      try with_reducible rfl
    try go_simp
    refine twoU (i := 2) (j := 6) rfl rfl (by kernel_rfl) (fun K hK => ?_) (fun K hK => ?_)
    · skip
      go_simp
      go_at_call 69
      refine (putUint t _ ht).mono ?_
      rintro e w2 ⟨a1, c1, rfl, hO, hk2⟩
      have hX2 := hX.drew.keep hk2 (by simp)
      have hk02 := hkx.drew.trans hk2
      have hO2 := hO.older (N' := xb) (by have := hkx.size; simp; omega)
      refine hK _ _ ?_ ?_
      · exact fun p hp _ _ => rdsE2_0 hX2 p hp
      clear hK K
      try go_simp
      refine oneU (i := 6) rfl (by kernel_rfl) (fun K hK => ?_)
      go_simp
      have hX3 := hX2.alloc (.cells #[.int .u8 kb.toNat] 5)
      have hO3 := hO2.keep0 ((Keeps.refl [] w2).alloc (.cells #[.int .u8 kb.toNat] 5))
      have hk03 := hk02.alloc (.cells #[.int .u8 kb.toNat] 5)
      refine hK _ _ ?_ ?_
      · exact fun p hp _ _ => rdsE2_0 hX3 p hp
      clear hK K
      try go_simp
      refine oneU (i := 7) rfl (by kernel_rfl) (fun K hK => ?_)
      refine step_append_by rfl _ _ 26 26 rfl xb 5 i z 1 1 Tryz.underlying26 hi hz hsz hby hzc a1 _ c1 _ rfl hO3 _ rfl 1 _ ((rb1 (x := kb) (Blk.fresh _ _ _)).src Tryz.underlying26) (by unfold maxLen; omega) (by omega) (by have := hk03.size; omega) ?_
      intro a2 c2 w4 hO4 hk4 hb4
      have hX4 := hX3.keep hk4 (fun hxx => ownsRow_ne hO3 hX3 (by decide) xb hxx rfl)
      refine hK _ _ ?_ ?_
      · exact fun p hp _ _ => rdsE2_0 hX4 p hp
      clear hK K
      try go_simp
      refine oneU (i := 8) rfl (by kernel_rfl) (fun K hK => ?_)
      go_simp
      refine hK _ _ ?_ ?_
      · exact fun p hp _ _ => rdsE2_0 hX4 p hp
      clear hK K
      refine doneU (by kernel_rfl) ?_
      have hO5 := Own.of hO4 (bys_append (uvarint t) [kb]).symm
      rw [← HL0.out] at hO5
      go_wp2_with fail
      go_meet
      exact ⟨a2, c2, by rw [HL0.out]; simp, hO5, hX4, hk03.step hk4 (fun x hx => .inr (by have := (ownsRow_lt hO3 x hx).1; omega))⟩
    · skip
      go_simp
      have hB2 := Blk.fresh w1.drew 5 #[.int .u8 kb.toNat]
      have hX2 := hX.drew.alloc (.cells #[.int .u8 kb.toNat] 5)
      have hk02 := hkx.drew.alloc (.cells #[.int .u8 kb.toNat] 5)
      refine hK _ _ ?_ ?_
      · exact fun p hp _ _ => rdsE2_0 hX2 p hp
      clear hK K
      try go_simp
      refine oneU (i := 2) rfl (by kernel_rfl) (fun K hK => ?_)
      go_simp
      go_at_call 69
      refine (putUint t _ ht).mono ?_
      rintro e w3 ⟨a1, c1, rfl, hO, hk3⟩
      have hX3 := hX2.keep hk3 (by simp)
      have hB3 := hB2.keep hk3 (by simp)
      have hO3 := hO.older (N' := xb) (by have h9 := hk02.size; rw [hxe] at h9; exact h9)
      have hk03 := hk02.trans hk3
      refine hK _ _ ?_ ?_
      · exact fun p hp _ _ => rdsE2_0 hX3 p hp
      clear hK K
      try go_simp
      refine oneU (i := 7) rfl (by kernel_rfl) (fun K hK => ?_)
      refine step_append_by rfl _ _ 26 26 rfl xb 5 i z 1 1 Tryz.underlying26 hi hz hsz hby hzc a1 _ c1 _ rfl hO3 _ rfl 1 _ ((rb1 (x := kb) hB3).src Tryz.underlying26) (by unfold maxLen; omega) (by omega) (by have := hk03.size; omega) ?_
      intro a2 c2 w4 hO4 hk4 hb4
      have hX4 := hX3.keep hk4 (fun hxx => ownsRow_ne hO3 hX3 (by decide) xb hxx rfl)
      refine hK _ _ ?_ ?_
      · exact fun p hp _ _ => rdsE2_0 hX4 p hp
      clear hK K
      try go_simp
      refine oneU (i := 8) rfl (by kernel_rfl) (fun K hK => ?_)
      go_simp
      refine hK _ _ ?_ ?_
      · exact fun p hp _ _ => rdsE2_0 hX4 p hp
      clear hK K
      refine doneU (by kernel_rfl) ?_
      have hO5 := Own.of hO4 (bys_append (uvarint t) [kb]).symm
      rw [← HL0.out] at hO5
      go_wp2_with fail
      go_meet
      exact ⟨a2, c2, by rw [HL0.out]; simp, hO5, hX4, hk03.step hk4 (fun x hx => .inr (by have := (ownsRow_lt hO3 x hx).1; omega))⟩
  case rest =>
  obtain ⟨ao1, c1, rfl, hO1, hX1, hk1⟩ := hcut
  clear hX hkx hcX hlX qk
  have hcX := hX1.cell
  have hlX := hX1.lt
  by_cases hk0 : kd = 0
  · subst hk0
    by_cases hz0 : cl = 0 ∧ sq = 0
    · obtain ⟨rfl, rfl⟩ := hz0
      cases he : s.toList.isEmpty with
      | true =>
        have hr : res = l0 := by rw [← HR.out, HL0.out]; simp [he]
        have hc : cls = 0 := by rw [← HC.out]; simp [he]
        clear HR HC HL0
        subst hr hc
        go_wp2_with fail
        go_ret2
        exact ⟨ao1, c1, .nilIface, rfl, by first | exact hO1 | (rw [hxe]; exact hO1), .inl ⟨rfl, rfl⟩, hk1⟩
      | false =>
        have hr : res = [] := by rw [← HR.out]; simp [he]
        have hc : cls = 20 := by rw [← HC.out]; simp [he]
        clear HR HC HL0
        subst hr hc
        go_wp2_with fail
        refine (wform _ _).mono ?_
        rintro e w4 ⟨g, rfl, hE, hk4⟩
        go_wp2_with fail
        go_ret2
        exact ⟨none, 0, _, rfl, Own.nil _ _, ErrF.of hE (by simp), hk1.trans hk4⟩
    · have hr : res = [] := by rw [← HR.out, if_pos rfl, if_neg]; simp; intro h1 h2; exact absurd ⟨h1, h2⟩ hz0
      have hc : cls = 20 := by rw [← HC.out, if_pos rfl, if_neg]; simp; intro h1 h2; exact absurd ⟨h1, h2⟩ hz0
      clear HR HC HL0
      subst hr hc
      by_cases hc0 : cl = 0
      · have n1 : ¬ (sq = 0) := fun h => hz0 ⟨hc0, h⟩
        have n2 : ¬ ((sq : Int) = 0) := by omega
        subst hc0
        clear hz0
        go_wp2_with fail
        refine (wform _ _).mono ?_
        rintro e w4 ⟨g, rfl, hE, hk4⟩
        go_wp2_with fail
        go_ret2
        exact ⟨none, 0, _, rfl, Own.nil _ _, ErrF.of hE (by simp), hk1.trans hk4⟩
      · have n2 : ¬ ((cl : Int) = 0) := by omega
        clear hz0
        go_wp2_with fail
        refine (wform _ _).mono ?_
        rintro e w4 ⟨g, rfl, hE, hk4⟩
        go_wp2_with fail
        go_ret2
        exact ⟨none, 0, _, rfl, Own.nil _ _, ErrF.of hE (by simp), hk1.trans hk4⟩
  by_cases hk1' : kd = 1
  · subst hk1'
    have hr : res = l0 ++ (uvarint cl ++ uvarint sq ++ (uvarint s.size ++ s.data.toList)) := by rw [← HR.out, HL0.out]; simp
    have hc : cls = 0 := by rw [← HC.out]; simp
    have HR2 := Lib.hid hr
    clear HR HC hk0 hr
    subst hc
    go_upto_region 10 with (fail)
    obtain ⟨l1, hl1⟩ : ∃ l1, l1 = l0 ++ uvarint cl ++ uvarint sq := ⟨_, rfl⟩
    have HL1 := Lib.hid hl1
    clear hl1
    go_cut [4] (fun v wx => ∃ ao c, v = .slice ao l1.length c ∧ Own wx xb ao c l1 ∧ Blk wx xb 65 #[.int .u64 (t : Nat), .int .i64 1, .int .u64 (cl : Nat), .int .u64 (sq : Nat), .string s] ∧ Keeps [] w wx)
    case first =>
      have hSw := rdsE2_2 (i0 := 2) (i1 := 6) hX1.drew
      have hlX := hX1.lt
      have u1 := uvarint_length64 ht
      have u2 := uvarint_length64 hcl
      have u3 := uvarint_length64 hsq
      have u4 : l0.length ≤ 11 := by rw [HL0.out]; simp; omega
      have hk0 := hk1.drew
      have hX0 := hX1.drew
      have hO0 := hO1.keep0 (Keeps.refl [] _).drew
      refine startU [((2 : Nat), fun w0 : World => w0.cell? ⟨xb, 2, none⟩ = some (.int .u64 (cl : Nat))), ((6 : Nat), fun w0 : World => w0.cell? ⟨xb, 3, none⟩ = some (.int .u64 (sq : Nat)))] (by kernel_rfl) ?_
      refine takeU (i := 0) (v := ?_) rfl (by kernel_rfl) (fun _ _ _ h => h) (Or.inl ⟨by rfl, fun w0 hw0 => ?_⟩) (fun p hp _ => hSw p hp) ?_
      rotate_left
      · simp [Reads] at hw0
        go_simp
        try with_reducible rfl
      try go_simp
      refine takeU (i := 1) (v := ?_) rfl (by kernel_rfl) (fun _ _ _ h => h) (Or.inl ⟨by rfl, fun w0 hw0 => ?_⟩) (fun p hp _ => hSw p hp) ?_
      rotate_left
      · simp [Reads] at hw0
        go_simp
        try with_reducible rfl
      try go_simp
      refine takeU (i := 2) (v := ?_) rfl (by kernel_rfl) (fun _ _ _ h => h) (Or.inl ⟨by rfl, fun w0 hw0 => ?_⟩) (fun p hp _ => hSw p hp) ?_
      rotate_left
      · simp [Reads] at hw0
        go_simp
        try with_reducible rfl
      try go_simp
      refine takeU (i := 5) (v := ?_) rfl (by kernel_rfl) (fun _ _ _ h => h) (Or.inl ⟨by rfl, fun w0 hw0 => ?_⟩) (fun p hp _ => hSw p hp) ?_
      rotate_left
      · simp [Reads] at hw0
        go_simp
        try with_reducible rfl
      try go_simp
      refine takeU (i := 6) (v := ?_) rfl (by kernel_rfl) (fun _ _ _ h => h) (Or.inl ⟨by rfl, fun w0 hw0 => ?_⟩) (fun p hp _ => hSw p hp) ?_
      rotate_left
      · simp [Reads] at hw0
        go_simp
        try with_reducible rfl
      try go_simp
      refine oneU (i := 3) rfl (by kernel_rfl) (fun K hK => ?_)
      go_simp
      go_at_call 69
      refine (putUint cl _ hcl).mono ?_
      rintro e wa1 ⟨pa1, pc1, rfl, hP1, hka1⟩
      have hXa1 := hX0.keep hka1 (by simp)
      have hOa1 := ownsRow_keep hO0 hka1 (by simp)
      have hk0a1 := hk0.trans hka1
      refine hK _ _ ?_ ?_
      · exact fun p hp _ _ => rdsE2_2 hXa1 p hp
      clear hK K
      try go_simp
      refine oneU (i := 4) rfl (by kernel_rfl) (fun K hK => ?_)
      refine step_append_by rfl _ _ 26 26 rfl xb 5 i z 1 1 Tryz.underlying26 hi hz hsz hby hzc ao1 _ c1 _ rfl hOa1 _ rfl _ _ (hP1.rb.src Tryz.underlying26) (by unfold maxLen; omega) (by omega) (by have := hk0a1.size; omega) ?_
      intro ab1 cb1 wb1 hQ1 hkb1 hbb1
      have hXb1 := hXa1.keep hkb1 (fun hxx => ownsRow_ne hOa1 hXa1 (by decide) xb hxx rfl)
      have hk0b1 := hk0a1.step hkb1 (fun x hx => .inr (by have := (ownsRow_lt hOa1 x hx).1; omega))
      refine hK _ _ ?_ ?_
      · exact fun p hp _ _ => rdsE2_2 hXb1 p hp
      clear hK K
      try go_simp
      refine oneU (i := 7) rfl (by kernel_rfl) (fun K hK => ?_)
      go_simp
      go_at_call 69
      refine (putUint sq _ hsq).mono ?_
      rintro e wa2 ⟨pa2, pc2, rfl, hP2, hka2⟩
      have hXa2 := hXb1.keep hka2 (by simp)
      have hOa2 := ownsRow_keep hQ1 hka2 (by simp)
      have hk0a2 := hk0b1.trans hka2
      refine hK _ _ ?_ ?_
      · exact fun p hp _ _ => rdsE2_2 hXa2 p hp
      clear hK K
      try go_simp
      refine oneU (i := 8) rfl (by kernel_rfl) (fun K hK => ?_)
      refine step_append_by rfl _ _ 26 26 rfl xb 5 i z 1 1 Tryz.underlying26 hi hz hsz hby hzc ab1 _ cb1 _ rfl hOa2 _ rfl _ _ (hP2.rb.src Tryz.underlying26) (by unfold maxLen; (try simp only [List.length_append]); omega) (by (try simp only [List.length_append]); omega) (by have := hk0a2.size; omega) ?_
      intro ab2 cb2 wb2 hQ2 hkb2 hbb2
      have hXb2 := hXa2.keep hkb2 (fun hxx => ownsRow_ne hOa2 hXa2 (by decide) xb hxx rfl)
      have hk0b2 := hk0a2.step hkb2 (fun x hx => .inr (by have := (ownsRow_lt hOa2 x hx).1; omega))
      refine hK _ _ ?_ ?_
      · exact fun p hp _ _ => rdsE2_2 hXb2 p hp
      clear hK K
      try go_simp
      refine oneU (i := 9) rfl (by kernel_rfl) (fun K hK => ?_)
      go_simp
      refine hK _ _ ?_ ?_
      · exact fun p hp _ _ => rdsE2_2 hXb2 p hp
      clear hK K
      refine doneU (by kernel_rfl) ?_
      go_wp2_with fail
      go_meet
      exact ⟨ab2, cb2, by rw [HL1.out]; simp [Nat.add_assoc], by rw [HL1.out]; exact Own.of hQ2 (by simp [bys_append]), hXb2, hk0b2⟩
    case rest =>
      obtain ⟨ao2, c2, rfl, hO2, hX2, hk2⟩ := hcut
      clear hX1 hO1 hcX hlX hk1
      have hcX := hX2.cell
      have hlX := hX2.lt
      have hs : s.size ≤ 1000000000 := by omega
      have u1 := uvarint_length64 ht
      have u2 := uvarint_length64 hcl
      have u3 := uvarint_length64 hsq
      have u5 := uvarint_length64 (x := s.size) (by omega)
      have hsl : s.data.toList.length = s.size := by rw [Array.length_toList]; rfl
      have hl1 : l1.length ≤ 31 := by rw [HL1.out, HL0.out]; simp; omega
      have hyl : (uvarint s.size ++ s.data.toList).length ≤ 3000 := by rw [List.length_append]; omega
      have hr : res = l1 ++ (uvarint s.size ++ s.data.toList) := by rw [HR2.out, HL1.out]; simp
      have P := fun W => putText s W hs
      have HP := Lib.hid P
      clear HR2 HL1 HL0 P u1 u2 u3 u5 hsl
      generalize uvarint s.size ++ s.data.toList = ys at *
      subst hr
      go_wp2_with fail
      refine (HP.out _).mono ?_
      rintro e w5 ⟨yo, yc, rfl, hY, hk5⟩
      have hO5 := hO2.keep0 hk5
      have hk05 := hk2.trans hk5
      clear HP
      go_wp2_with (at_builtin; refine wpList_append_by _ rfl _ _ 26 26 rfl xb 5 i z 1 1 Tryz.underlying26 hi hz hsz hby hzc ao2 _ c2 _ rfl hO5 _ rfl ys.length _ (hY.rb.src Tryz.underlying26) (by unfold maxLen; omega) (by omega) (by have := hk05.size; omega) ?_; intro ao6 c6 w6 hO6 hk6 hb6)
      have hO7 := Own.of hO6 (bys_append l1 ys).symm
      have hk06 := hk05.step hk6 (fun x hx => .inr (by have := (ownsRow_lt hO5 x hx).1; omega))
      go_ret2
      exact ⟨ao6, c6, .nilIface, by rw [List.length_append]; rfl, by first | exact hO7 | (rw [hxe]; exact hO7), .inl ⟨rfl, rfl⟩, hk06⟩
  · have hr : res = [] := by rw [← HR.out, if_neg hk0]; simp [hk1']
    have hc : cls = 20 := by rw [← HC.out, if_neg hk0]; simp [hk1']
    have n1 : (kd == 0) = false := by simpa using hk0
    have n2 : (kd == 1) = false := by simpa using hk1'
    clear HR HC HL0
    subst hr hc
    clear hk0 hk1'
    go_wp2_with fail
    refine (wform _ _).mono ?_
    rintro e w4 ⟨g, rfl, hE, hk4⟩
    go_wp2_with fail
    go_ret2
    exact ⟨none, 0, _, rfl, Own.nil _ _, ErrF.of hE (by simp), hk1.trans hk4⟩

set_option maxRecDepth 100000 in
set_option maxHeartbeats 8000000 in
theorem putEntryR_any (t : Nat) (kd : Int) (cl sq : Nat) (s : ByteArray) (w : World) (ht : t < 18446744073709551616) (hcl : cl < 18446744073709551616) (hsq : sq < 18446744073709551616) :
    Calls Tryz.prog 43 #[.agg #[.int .u64 (t : Nat), .int .i64 kd, .int .u64 (cl : Nat), .int .u64 (sq : Nat), .string s]] w fun e w' => ∃ bo d, e = .returned (.tuple #[.slice bo (if entOk ⟨t, kd, cl, sq, s⟩ then putE ⟨t, kd, cl, sq, s⟩ else []).length d, .int .i64 (if entOk ⟨t, kd, cl, sq, s⟩ then 0 else 20)]) ∧ Own w' w.heap.size bo d (if entOk ⟨t, kd, cl, sq, s⟩ then putE ⟨t, kd, cl, sq, s⟩ else []) ∧ Keeps [] w w' := by
  obtain ⟨i, z, hi, hz, hsz, hby, hzc⟩ := infoB
  generalize hres : (if entOk ⟨t, kd, cl, sq, s⟩ then putE ⟨t, kd, cl, sq, s⟩ else []) = res
  generalize hcls : (if entOk ⟨t, kd, cl, sq, s⟩ then (0 : Int) else 20) = cls
  unfold entOk putE at hres
  unfold entOk at hcls
  simp only at hres hcls
  have hX := Blk.fresh w 65 #[.int .u64 (t : Nat), .int .i64 kd, .int .u64 (cl : Nat), .int .u64 (sq : Nat), .string s]
  have hkx := (Keeps.refl [] w).alloc (.cells #[.int .u64 (t : Nat), .int .i64 kd, .int .u64 (cl : Nat), .int .u64 (sq : Nat), .string s] 65)
  have bad : ∀ (W : World), res = [] → Keeps [] w W → ∃ bo d, Ending.returned (.tuple #[.slice none 0 0, .int .i64 20]) = Ending.returned (.tuple #[.slice bo res.length d, .int .i64 20]) ∧ Own W w.heap.size bo d res ∧ Keeps [] w W := by
    rintro W rfl hk
    exact ⟨none, 0, rfl, Own.nil _ _, hk⟩
  have BAD := Lib.hid bad
  clear bad
  by_cases hok : (s.size ≤ 2000 ∧ ((kd = 0 ∧ cl = 0 ∧ sq = 0 ∧ s.toList.isEmpty = true) ∨ kd = 1))
  rotate_left
  · have hb : (decide (s.size ≤ 2000) && (if kd = 0 then decide (cl = 0) && decide (sq = 0) && s.toList.isEmpty else decide (kd = 1))) = false := by
      rw [Bool.eq_false_iff]
      intro h
      simp only [Bool.and_eq_true, decide_eq_true_eq] at h
      apply hok
      refine ⟨h.1, ?_⟩
      have h2 := h.2
      split at h2
      · simp only [Bool.and_eq_true, decide_eq_true_eq] at h2
        exact .inl ⟨by assumption, h2.1.1, h2.1.2, h2.2⟩
      · exact .inr (of_decide_eq_true h2)
    rw [hb] at hres hcls
    simp only [Bool.false_eq_true, if_false] at hres hcls
    have HR := Lib.hid hres.symm
    subst hcls
    clear hb hres
    have HOK := Lib.hid hok
    clear hok
    by_cases h2k : 2000 < s.size
    · have n1 : (2000 : Int) < (s.size : Int) := by omega
      by_cases hk0 : kd = 0
      · subst hk0
        go_enter Tryz.func43, Tryz.ntmps43
        go_wp2_with fail
        all_goals (go_ret2; exact BAD.out _ HR.out ((Keeps.refl [] w).alloc _))
      · have n2 : ¬ (kd = 0) := hk0
        by_cases hk1 : kd = 1
        · subst hk1
          go_enter Tryz.func43, Tryz.ntmps43
          go_wp2_with fail
          all_goals (go_ret2; exact BAD.out _ HR.out ((Keeps.refl [] w).alloc _))
        · go_enter Tryz.func43, Tryz.ntmps43
          go_wp2_with fail
          all_goals (go_ret2; exact BAD.out _ HR.out ((Keeps.refl [] w).alloc _))
    have n1 : ¬ ((2000 : Int) < (s.size : Int)) := by omega
    by_cases hk0 : kd = 0
    · subst hk0
      by_cases hc0 : cl = 0
      · subst hc0
        by_cases hs0 : sq = 0
        · subst hs0
          have he : s.toList.isEmpty = false := by
            rw [Bool.eq_false_iff]
            intro h
            exact HOK.out ⟨by omega, .inl ⟨rfl, rfl, rfl, h⟩⟩
          go_enter Tryz.func43, Tryz.ntmps43
          go_wp2_with fail
          go_ret2
          exact BAD.out _ HR.out ((Keeps.refl [] w).alloc _)
        · have n2 : ¬ ((sq : Int) = 0) := by omega
          go_enter Tryz.func43, Tryz.ntmps43
          go_wp2_with fail
          go_ret2
          exact BAD.out _ HR.out ((Keeps.refl [] w).alloc _)
      · have n2 : ¬ ((cl : Int) = 0) := by omega
        go_enter Tryz.func43, Tryz.ntmps43
        go_wp2_with fail
        go_ret2
        exact BAD.out _ HR.out ((Keeps.refl [] w).alloc _)
    · have hk1 : ¬ (kd = 1) := fun h => HOK.out ⟨by omega, .inr h⟩
      go_enter Tryz.func43, Tryz.ntmps43
      go_wp2_with fail
      go_ret2
      exact BAD.out _ HR.out ((Keeps.refl [] w).alloc _)
  obtain ⟨hs, hok2⟩ := hok
  have n1 : ¬ ((2000 : Int) < (s.size : Int)) := by omega
  have hd : decide (s.size ≤ 2000) = true := by simpa using hs
  rw [hd, Bool.true_and] at hres hcls
  clear hd BAD
  rcases hok2 with ⟨rfl, rfl, rfl, he⟩ | rfl
  · rw [he] at hres hcls
    simp only [decide_true, Bool.and_self, if_true] at hres hcls
    subst hcls
    have qk := kindByte 0
    generalize UInt8.ofNat ((0 : Int) % 256).toNat = kb at *
    have HR := Lib.hid hres
    clear hres
    have h0 : (0 : Nat) < 18446744073709551616 := by decide
    go_enter Tryz.func43, Tryz.ntmps43
    go_upto_region 1 with (fail)
    generalize World.alloc w _ = w1 at *
    generalize hxe : w.heap.size = xb at hX
    have hcX := hX.cell
    have hlX := hX.lt
    go_upto_region 4 with (fail)
    obtain ⟨l0, hl0⟩ : ∃ l0, l0 = uvarint t ++ [kb] := ⟨_, rfl⟩
    have HL0 := Lib.hid hl0
    clear hl0
    go_cut [5] (fun v wx => ∃ ao c, v = .slice ao l0.length c ∧ Own wx xb ao c l0 ∧ Blk wx xb 65 #[.int .u64 (t : Nat), .int .i64 0, .int .u64 (0 : Nat), .int .u64 (0 : Nat), .string s] ∧ Keeps [] w wx)
    case first =>
      have hSw := rdsE2_0 (i0 := 1) (i1 := 4) hX.drew
      have hlX := hX.lt
      have hul := uvarint_length64 ht
      refine startU [((1 : Nat), fun w0 : World => w0.cell? ⟨xb, 0, none⟩ = some (.int .u64 (t : Nat))), ((4 : Nat), fun w0 : World => w0.cell? ⟨xb, 1, none⟩ = some (.int .i64 0))] (by kernel_rfl) ?_
      refine takeU (i := 0) (v := ?_) rfl (by kernel_rfl) (fun _ _ _ h => h) (Or.inl ⟨by rfl, fun w0 hw0 => ?_⟩) (fun p hp _ => hSw p hp) ?_
      rotate_left
      · simp [Reads] at hw0
        go_simp
        try with_reducible rfl
      try go_simp
      refine takeU (i := 1) (v := ?_) rfl (by kernel_rfl) (fun _ _ _ h => h) (Or.inl ⟨by rfl, fun w0 hw0 => ?_⟩) (fun p hp _ => hSw p hp) ?_
      rotate_left
      · simp [Reads] at hw0
        go_simp
        try with_reducible rfl
      try go_simp
      refine takeU (i := 3) (v := ?_) rfl (by kernel_rfl) (fun _ _ _ h => h) (Or.inl ⟨by rfl, fun w0 hw0 => ?_⟩) (fun p hp _ => hSw p hp) ?_
      rotate_left
      · simp [Reads] at hw0
        go_simp
        try with_reducible rfl
      try go_simp
      refine takeU (i := 4) (v := ?_) rfl (by kernel_rfl) (fun _ _ _ h => h) (Or.inl ⟨by rfl, fun w0 hw0 => ?_⟩) (fun p hp _ => hSw p hp) ?_
      rotate_left
      · simp [Reads] at hw0
        go_simp
        try with_reducible rfl
      try go_simp
      refine takeU (i := 5) (v := ?_) rfl (by kernel_rfl) (fun _ _ _ h => h) (Or.inl ⟨by rfl, fun w0 hw0 => ?_⟩) (fun p hp _ => hSw p hp) ?_
      rotate_left
      · simp [Reads] at hw0
        go_simp
        try with_reducible rfl
      try go_simp
      refine twoU (i := 2) (j := 6) rfl rfl (by kernel_rfl) (fun K hK => ?_) (fun K hK => ?_)
      · skip
        go_simp
        go_at_call 67
        refine (putUintR t _ ht).mono ?_
        rintro e w2 ⟨a1, c1, rfl, hO, hk2⟩
        have hX2 := hX.drew.keep hk2 (by simp)
        have hk02 := hkx.drew.trans hk2
        have hO2 := hO.older (N' := xb) (by have := hkx.size; simp; omega)
        refine hK _ _ ?_ ?_
        · exact fun p hp _ _ => rdsE2_0 hX2 p hp
        clear hK K
        try go_simp
        refine oneU (i := 6) rfl (by kernel_rfl) (fun K hK => ?_)
        go_simp
        have hX3 := hX2.alloc (.cells #[.int .u8 kb.toNat] 5)
        have hO3 := hO2.keep0 ((Keeps.refl [] w2).alloc (.cells #[.int .u8 kb.toNat] 5))
        have hk03 := hk02.alloc (.cells #[.int .u8 kb.toNat] 5)
        refine hK _ _ ?_ ?_
        · exact fun p hp _ _ => rdsE2_0 hX3 p hp
        clear hK K
        try go_simp
        refine oneU (i := 7) rfl (by kernel_rfl) (fun K hK => ?_)
        refine step_append_by rfl _ _ 26 26 rfl xb 5 i z 1 1 Tryz.underlying26 hi hz hsz hby hzc a1 _ c1 _ rfl hO3 _ rfl 1 _ ((rb1 (x := kb) (Blk.fresh _ _ _)).src Tryz.underlying26) (by unfold maxLen; omega) (by omega) (by have := hk03.size; omega) ?_
        intro a2 c2 w4 hO4 hk4 hb4
        have hX4 := hX3.keep hk4 (fun hxx => ownsRow_ne hO3 hX3 (by decide) xb hxx rfl)
        refine hK _ _ ?_ ?_
        · exact fun p hp _ _ => rdsE2_0 hX4 p hp
        clear hK K
        try go_simp
        refine oneU (i := 8) rfl (by kernel_rfl) (fun K hK => ?_)
        go_simp
        refine hK _ _ ?_ ?_
        · exact fun p hp _ _ => rdsE2_0 hX4 p hp
        clear hK K
        refine doneU (by kernel_rfl) ?_
        have hO5 := Own.of hO4 (bys_append (uvarint t) [kb]).symm
        rw [← HL0.out] at hO5
        go_wp2_with fail
        go_meet
        exact ⟨a2, c2, by rw [HL0.out]; simp, hO5, hX4, hk03.step hk4 (fun x hx => .inr (by have := (ownsRow_lt hO3 x hx).1; omega))⟩
      · skip
        go_simp
        have hB2 := Blk.fresh w1.drew 5 #[.int .u8 kb.toNat]
        have hX2 := hX.drew.alloc (.cells #[.int .u8 kb.toNat] 5)
        have hk02 := hkx.drew.alloc (.cells #[.int .u8 kb.toNat] 5)
        refine hK _ _ ?_ ?_
        · exact fun p hp _ _ => rdsE2_0 hX2 p hp
        clear hK K
        try go_simp
        refine oneU (i := 2) rfl (by kernel_rfl) (fun K hK => ?_)
        go_simp
        go_at_call 67
        refine (putUintR t _ ht).mono ?_
        rintro e w3 ⟨a1, c1, rfl, hO, hk3⟩
        have hX3 := hX2.keep hk3 (by simp)
        have hB3 := hB2.keep hk3 (by simp)
        have hO3 := hO.older (N' := xb) (by have h9 := hk02.size; rw [hxe] at h9; exact h9)
        have hk03 := hk02.trans hk3
        refine hK _ _ ?_ ?_
        · exact fun p hp _ _ => rdsE2_0 hX3 p hp
        clear hK K
        try go_simp
        refine oneU (i := 7) rfl (by kernel_rfl) (fun K hK => ?_)
        refine step_append_by rfl _ _ 26 26 rfl xb 5 i z 1 1 Tryz.underlying26 hi hz hsz hby hzc a1 _ c1 _ rfl hO3 _ rfl 1 _ ((rb1 (x := kb) hB3).src Tryz.underlying26) (by unfold maxLen; omega) (by omega) (by have := hk03.size; omega) ?_
        intro a2 c2 w4 hO4 hk4 hb4
        have hX4 := hX3.keep hk4 (fun hxx => ownsRow_ne hO3 hX3 (by decide) xb hxx rfl)
        refine hK _ _ ?_ ?_
        · exact fun p hp _ _ => rdsE2_0 hX4 p hp
        clear hK K
        try go_simp
        refine oneU (i := 8) rfl (by kernel_rfl) (fun K hK => ?_)
        go_simp
        refine hK _ _ ?_ ?_
        · exact fun p hp _ _ => rdsE2_0 hX4 p hp
        clear hK K
        refine doneU (by kernel_rfl) ?_
        have hO5 := Own.of hO4 (bys_append (uvarint t) [kb]).symm
        rw [← HL0.out] at hO5
        go_wp2_with fail
        go_meet
        exact ⟨a2, c2, by rw [HL0.out]; simp, hO5, hX4, hk03.step hk4 (fun x hx => .inr (by have := (ownsRow_lt hO3 x hx).1; omega))⟩
    case rest =>
    obtain ⟨ao1, c1, rfl, hO1, hX1, hk1⟩ := hcut
    clear hX hkx hcX hlX qk
    have hcX := hX1.cell
    have hlX := hX1.lt
    have hr : res = l0 := by rw [← HR.out, HL0.out]; first | rfl | simp
    clear HR HL0
    subst hr
    go_wp2_with fail
    go_ret2
    exact ⟨ao1, c1, rfl, by first | exact hO1 | (rw [hxe]; exact hO1), hk1⟩
  · have hb1 : (if (1 : Int) = 0 then decide (cl = 0) && decide (sq = 0) && s.toList.isEmpty else decide ((1 : Int) = 1)) = true := by simp
    rw [hb1] at hres hcls
    simp only [if_true] at hres hcls
    clear hb1
    subst hcls
    have qk := kindByte 1
    generalize UInt8.ofNat ((1 : Int) % 256).toNat = kb at *
    have HR := Lib.hid hres
    clear hres
    have hs1 : s.size ≤ 1000000000 := by omega
    have u5 := uvarint_length64 (x := s.size) (by omega)
    have hsl : s.data.toList.length = s.size := by rw [Array.length_toList]; rfl
    have hyl : (uvarint s.size ++ s.data.toList).length ≤ 3000 := by rw [List.length_append]; omega
    have P3 := fun W => putTextR s W hs1
    generalize hys : uvarint s.size ++ s.data.toList = ys at *
    have HP3 := Lib.hid P3
    clear P3 hsl u5
    go_enter Tryz.func43, Tryz.ntmps43
    go_upto_region 1 with (fail)
    generalize World.alloc w _ = w1 at *
    generalize hxe : w.heap.size = xb at hX
    have hcX := hX.cell
    have hlX := hX.lt
    go_upto_region 4 with (fail)
    obtain ⟨l0, hl0⟩ : ∃ l0, l0 = uvarint t ++ [kb] := ⟨_, rfl⟩
    have HL0 := Lib.hid hl0
    clear hl0
    go_cut [5] (fun v wx => ∃ ao c, v = .slice ao l0.length c ∧ Own wx xb ao c l0 ∧ Blk wx xb 65 #[.int .u64 (t : Nat), .int .i64 1, .int .u64 (cl : Nat), .int .u64 (sq : Nat), .string s] ∧ Keeps [] w wx)
    case first =>
      have hSw := rdsE2_0 (i0 := 1) (i1 := 4) hX.drew
      have hlX := hX.lt
      have hul := uvarint_length64 ht
      refine startU [((1 : Nat), fun w0 : World => w0.cell? ⟨xb, 0, none⟩ = some (.int .u64 (t : Nat))), ((4 : Nat), fun w0 : World => w0.cell? ⟨xb, 1, none⟩ = some (.int .i64 1))] (by kernel_rfl) ?_
      refine takeU (i := 0) (v := ?_) rfl (by kernel_rfl) (fun _ _ _ h => h) (Or.inl ⟨by rfl, fun w0 hw0 => ?_⟩) (fun p hp _ => hSw p hp) ?_
      rotate_left
      · simp [Reads] at hw0
        go_simp
        try with_reducible rfl
      try go_simp
      refine takeU (i := 1) (v := ?_) rfl (by kernel_rfl) (fun _ _ _ h => h) (Or.inl ⟨by rfl, fun w0 hw0 => ?_⟩) (fun p hp _ => hSw p hp) ?_
      rotate_left
      · simp [Reads] at hw0
        go_simp
        try with_reducible rfl
      try go_simp
      refine takeU (i := 3) (v := ?_) rfl (by kernel_rfl) (fun _ _ _ h => h) (Or.inl ⟨by rfl, fun w0 hw0 => ?_⟩) (fun p hp _ => hSw p hp) ?_
      rotate_left
      · simp [Reads] at hw0
        go_simp
        try with_reducible rfl
      try go_simp
      refine takeU (i := 4) (v := ?_) rfl (by kernel_rfl) (fun _ _ _ h => h) (Or.inl ⟨by rfl, fun w0 hw0 => ?_⟩) (fun p hp _ => hSw p hp) ?_
      rotate_left
      · simp [Reads] at hw0
        go_simp
        try with_reducible rfl
      try go_simp
      refine takeU (i := 5) (v := ?_) rfl (by kernel_rfl) (fun _ _ _ h => h) (Or.inl ⟨by rfl, fun w0 hw0 => ?_⟩) (fun p hp _ => hSw p hp) ?_
      rotate_left
      · simp [Reads] at hw0
        go_simp
        try with_reducible rfl
      try go_simp
      refine twoU (i := 2) (j := 6) rfl rfl (by kernel_rfl) (fun K hK => ?_) (fun K hK => ?_)
      · skip
        go_simp
        go_at_call 67
        refine (putUintR t _ ht).mono ?_
        rintro e w2 ⟨a1, c1, rfl, hO, hk2⟩
        have hX2 := hX.drew.keep hk2 (by simp)
        have hk02 := hkx.drew.trans hk2
        have hO2 := hO.older (N' := xb) (by have := hkx.size; simp; omega)
        refine hK _ _ ?_ ?_
        · exact fun p hp _ _ => rdsE2_0 hX2 p hp
        clear hK K
        try go_simp
        refine oneU (i := 6) rfl (by kernel_rfl) (fun K hK => ?_)
        go_simp
        have hX3 := hX2.alloc (.cells #[.int .u8 kb.toNat] 5)
        have hO3 := hO2.keep0 ((Keeps.refl [] w2).alloc (.cells #[.int .u8 kb.toNat] 5))
        have hk03 := hk02.alloc (.cells #[.int .u8 kb.toNat] 5)
        refine hK _ _ ?_ ?_
        · exact fun p hp _ _ => rdsE2_0 hX3 p hp
        clear hK K
        try go_simp
        refine oneU (i := 7) rfl (by kernel_rfl) (fun K hK => ?_)
        refine step_append_by rfl _ _ 26 26 rfl xb 5 i z 1 1 Tryz.underlying26 hi hz hsz hby hzc a1 _ c1 _ rfl hO3 _ rfl 1 _ ((rb1 (x := kb) (Blk.fresh _ _ _)).src Tryz.underlying26) (by unfold maxLen; omega) (by omega) (by have := hk03.size; omega) ?_
        intro a2 c2 w4 hO4 hk4 hb4
        have hX4 := hX3.keep hk4 (fun hxx => ownsRow_ne hO3 hX3 (by decide) xb hxx rfl)
        refine hK _ _ ?_ ?_
        · exact fun p hp _ _ => rdsE2_0 hX4 p hp
        clear hK K
        try go_simp
        refine oneU (i := 8) rfl (by kernel_rfl) (fun K hK => ?_)
        go_simp
        refine hK _ _ ?_ ?_
        · exact fun p hp _ _ => rdsE2_0 hX4 p hp
        clear hK K
        refine doneU (by kernel_rfl) ?_
        have hO5 := Own.of hO4 (bys_append (uvarint t) [kb]).symm
        rw [← HL0.out] at hO5
        go_wp2_with fail
        go_meet
        exact ⟨a2, c2, by rw [HL0.out]; simp, hO5, hX4, hk03.step hk4 (fun x hx => .inr (by have := (ownsRow_lt hO3 x hx).1; omega))⟩
      · skip
        go_simp
        have hB2 := Blk.fresh w1.drew 5 #[.int .u8 kb.toNat]
        have hX2 := hX.drew.alloc (.cells #[.int .u8 kb.toNat] 5)
        have hk02 := hkx.drew.alloc (.cells #[.int .u8 kb.toNat] 5)
        refine hK _ _ ?_ ?_
        · exact fun p hp _ _ => rdsE2_0 hX2 p hp
        clear hK K
        try go_simp
        refine oneU (i := 2) rfl (by kernel_rfl) (fun K hK => ?_)
        go_simp
        go_at_call 67
        refine (putUintR t _ ht).mono ?_
        rintro e w3 ⟨a1, c1, rfl, hO, hk3⟩
        have hX3 := hX2.keep hk3 (by simp)
        have hB3 := hB2.keep hk3 (by simp)
        have hO3 := hO.older (N' := xb) (by have h9 := hk02.size; rw [hxe] at h9; exact h9)
        have hk03 := hk02.trans hk3
        refine hK _ _ ?_ ?_
        · exact fun p hp _ _ => rdsE2_0 hX3 p hp
        clear hK K
        try go_simp
        refine oneU (i := 7) rfl (by kernel_rfl) (fun K hK => ?_)
        refine step_append_by rfl _ _ 26 26 rfl xb 5 i z 1 1 Tryz.underlying26 hi hz hsz hby hzc a1 _ c1 _ rfl hO3 _ rfl 1 _ ((rb1 (x := kb) hB3).src Tryz.underlying26) (by unfold maxLen; omega) (by omega) (by have := hk03.size; omega) ?_
        intro a2 c2 w4 hO4 hk4 hb4
        have hX4 := hX3.keep hk4 (fun hxx => ownsRow_ne hO3 hX3 (by decide) xb hxx rfl)
        refine hK _ _ ?_ ?_
        · exact fun p hp _ _ => rdsE2_0 hX4 p hp
        clear hK K
        try go_simp
        refine oneU (i := 8) rfl (by kernel_rfl) (fun K hK => ?_)
        go_simp
        refine hK _ _ ?_ ?_
        · exact fun p hp _ _ => rdsE2_0 hX4 p hp
        clear hK K
        refine doneU (by kernel_rfl) ?_
        have hO5 := Own.of hO4 (bys_append (uvarint t) [kb]).symm
        rw [← HL0.out] at hO5
        go_wp2_with fail
        go_meet
        exact ⟨a2, c2, by rw [HL0.out]; simp, hO5, hX4, hk03.step hk4 (fun x hx => .inr (by have := (ownsRow_lt hO3 x hx).1; omega))⟩
    case rest =>
    obtain ⟨ao1, c1, rfl, hO1, hX1, hk1⟩ := hcut
    clear hX hkx hcX hlX qk
    have hcX := hX1.cell
    have hlX := hX1.lt
    go_upto_region 6 with (fail)
    obtain ⟨l1, hl1⟩ : ∃ l1, l1 = l0 ++ uvarint cl ++ uvarint sq ++ ys := ⟨_, rfl⟩
    have HL1 := Lib.hid hl1
    clear hl1
    go_cut [5] (fun v wx => ∃ ao c, v = .slice ao l1.length c ∧ Own wx xb ao c l1 ∧ Blk wx xb 65 #[.int .u64 (t : Nat), .int .i64 1, .int .u64 (cl : Nat), .int .u64 (sq : Nat), .string s] ∧ Keeps [] w wx)
    case first =>
      have hSw := rdsE3_2 (i0 := 2) (i1 := 6) (i2 := 10) hX1.drew
      have hlX := hX1.lt
      have u1 := uvarint_length64 ht
      have u2 := uvarint_length64 hcl
      have u3 := uvarint_length64 hsq
      have u4 : l0.length ≤ 11 := by rw [HL0.out]; simp; omega
      have hk0 := hk1.drew
      have hX0 := hX1.drew
      have hO0 := hO1.keep0 (Keeps.refl [] _).drew
      refine startU [((2 : Nat), fun w0 : World => w0.cell? ⟨xb, 2, none⟩ = some (.int .u64 (cl : Nat))), ((6 : Nat), fun w0 : World => w0.cell? ⟨xb, 3, none⟩ = some (.int .u64 (sq : Nat))), ((10 : Nat), fun w0 : World => w0.cell? ⟨xb, 4, none⟩ = some (.string s))] (by kernel_rfl) ?_
      refine takeU (i := 0) (v := ?_) rfl (by kernel_rfl) (fun _ _ _ h => h) (Or.inl ⟨by rfl, fun w0 hw0 => ?_⟩) (fun p hp _ => hSw p hp) ?_
      rotate_left
      · simp [Reads] at hw0
        go_simp
        try with_reducible rfl
      try go_simp
      refine takeU (i := 1) (v := ?_) rfl (by kernel_rfl) (fun _ _ _ h => h) (Or.inl ⟨by rfl, fun w0 hw0 => ?_⟩) (fun p hp _ => hSw p hp) ?_
      rotate_left
      · simp [Reads] at hw0
        go_simp
        try with_reducible rfl
      try go_simp
      refine takeU (i := 2) (v := ?_) rfl (by kernel_rfl) (fun _ _ _ h => h) (Or.inl ⟨by rfl, fun w0 hw0 => ?_⟩) (fun p hp _ => hSw p hp) ?_
      rotate_left
      · simp [Reads] at hw0
        go_simp
        try with_reducible rfl
      try go_simp
      refine takeU (i := 5) (v := ?_) rfl (by kernel_rfl) (fun _ _ _ h => h) (Or.inl ⟨by rfl, fun w0 hw0 => ?_⟩) (fun p hp _ => hSw p hp) ?_
      rotate_left
      · simp [Reads] at hw0
        go_simp
        try with_reducible rfl
      try go_simp
      refine takeU (i := 6) (v := ?_) rfl (by kernel_rfl) (fun _ _ _ h => h) (Or.inl ⟨by rfl, fun w0 hw0 => ?_⟩) (fun p hp _ => hSw p hp) ?_
      rotate_left
      · simp [Reads] at hw0
        go_simp
        try with_reducible rfl
      try go_simp
      refine takeU (i := 9) (v := ?_) rfl (by kernel_rfl) (fun _ _ _ h => h) (Or.inl ⟨by rfl, fun w0 hw0 => ?_⟩) (fun p hp _ => hSw p hp) ?_
      rotate_left
      · simp [Reads] at hw0
        go_simp
        try with_reducible rfl
      try go_simp
      refine takeU (i := 10) (v := ?_) rfl (by kernel_rfl) (fun _ _ _ h => h) (Or.inl ⟨by rfl, fun w0 hw0 => ?_⟩) (fun p hp _ => hSw p hp) ?_
      rotate_left
      · simp [Reads] at hw0
        go_simp
        try with_reducible rfl
      try go_simp
      refine oneU (i := 3) rfl (by kernel_rfl) (fun K hK => ?_)
      go_simp
      go_at_call 67
      refine (putUintR cl _ hcl).mono ?_
      rintro e wa1 ⟨pa1, pc1, rfl, hP1, hka1⟩
      have hXa1 := hX0.keep hka1 (by simp)
      have hOa1 := ownsRow_keep hO0 hka1 (by simp)
      have hk0a1 := hk0.trans hka1
      refine hK _ _ ?_ ?_
      · exact fun p hp _ _ => rdsE3_2 hXa1 p hp
      clear hK K
      try go_simp
      refine oneU (i := 4) rfl (by kernel_rfl) (fun K hK => ?_)
      refine step_append_by rfl _ _ 26 26 rfl xb 5 i z 1 1 Tryz.underlying26 hi hz hsz hby hzc ao1 _ c1 _ rfl hOa1 _ rfl _ _ (hP1.rb.src Tryz.underlying26) (by unfold maxLen; omega) (by omega) (by have := hk0a1.size; omega) ?_
      intro ab1 cb1 wb1 hQ1 hkb1 hbb1
      have hXb1 := hXa1.keep hkb1 (fun hxx => ownsRow_ne hOa1 hXa1 (by decide) xb hxx rfl)
      have hk0b1 := hk0a1.step hkb1 (fun x hx => .inr (by have := (ownsRow_lt hOa1 x hx).1; omega))
      refine hK _ _ ?_ ?_
      · exact fun p hp _ _ => rdsE3_2 hXb1 p hp
      clear hK K
      try go_simp
      refine oneU (i := 7) rfl (by kernel_rfl) (fun K hK => ?_)
      go_simp
      go_at_call 67
      refine (putUintR sq _ hsq).mono ?_
      rintro e wa2 ⟨pa2, pc2, rfl, hP2, hka2⟩
      have hXa2 := hXb1.keep hka2 (by simp)
      have hOa2 := ownsRow_keep hQ1 hka2 (by simp)
      have hk0a2 := hk0b1.trans hka2
      refine hK _ _ ?_ ?_
      · exact fun p hp _ _ => rdsE3_2 hXa2 p hp
      clear hK K
      try go_simp
      refine oneU (i := 8) rfl (by kernel_rfl) (fun K hK => ?_)
      refine step_append_by rfl _ _ 26 26 rfl xb 5 i z 1 1 Tryz.underlying26 hi hz hsz hby hzc ab1 _ cb1 _ rfl hOa2 _ rfl _ _ (hP2.rb.src Tryz.underlying26) (by unfold maxLen; (try simp only [List.length_append]); omega) (by (try simp only [List.length_append]); omega) (by have := hk0a2.size; omega) ?_
      intro ab2 cb2 wb2 hQ2 hkb2 hbb2
      have hXb2 := hXa2.keep hkb2 (fun hxx => ownsRow_ne hOa2 hXa2 (by decide) xb hxx rfl)
      have hk0b2 := hk0a2.step hkb2 (fun x hx => .inr (by have := (ownsRow_lt hOa2 x hx).1; omega))
      refine hK _ _ ?_ ?_
      · exact fun p hp _ _ => rdsE3_2 hXb2 p hp
      clear hK K
      try go_simp
      refine oneU (i := 11) rfl (by kernel_rfl) (fun K hK => ?_)
      go_simp
      go_at_call 68
      refine (HP3.out _).mono ?_
      rintro e wa3 ⟨pa3, pc3, rfl, hP3, hka3⟩
      have hXa3 := hXb2.keep hka3 (by simp)
      have hOa3 := ownsRow_keep hQ2 hka3 (by simp)
      have hk0a3 := hk0b2.trans hka3
      refine hK _ _ ?_ ?_
      · exact fun p hp _ _ => rdsE3_2 hXa3 p hp
      clear hK K
      try go_simp
      refine oneU (i := 12) rfl (by kernel_rfl) (fun K hK => ?_)
      refine step_append_by rfl _ _ 26 26 rfl xb 5 i z 1 1 Tryz.underlying26 hi hz hsz hby hzc ab2 _ cb2 _ rfl hOa3 _ rfl _ _ (hP3.rb.src Tryz.underlying26) (by unfold maxLen; (try simp only [List.length_append]); omega) (by (try simp only [List.length_append]); omega) (by have := hk0a3.size; omega) ?_
      intro ab3 cb3 wb3 hQ3 hkb3 hbb3
      have hXb3 := hXa3.keep hkb3 (fun hxx => ownsRow_ne hOa3 hXa3 (by decide) xb hxx rfl)
      have hk0b3 := hk0a3.step hkb3 (fun x hx => .inr (by have := (ownsRow_lt hOa3 x hx).1; omega))
      refine hK _ _ ?_ ?_
      · exact fun p hp _ _ => rdsE3_2 hXb3 p hp
      clear hK K
      try go_simp
      refine oneU (i := 13) rfl (by kernel_rfl) (fun K hK => ?_)
      go_simp
      refine hK _ _ ?_ ?_
      · exact fun p hp _ _ => rdsE3_2 hXb3 p hp
      clear hK K
      refine doneU (by kernel_rfl) ?_
      go_wp2_with fail
      go_meet
      exact ⟨ab3, cb3, by rw [HL1.out]; simp [Nat.add_assoc], by rw [HL1.out]; exact Own.of hQ3 (by simp [bys_append]), hXb3, hk0b3⟩
    case rest =>
      obtain ⟨ao2, c2, rfl, hO2, hX2, hk2⟩ := hcut
      have hr : res = l1 := by rw [← HR.out, HL1.out, HL0.out]; simp
      clear HR HL1 HL0 hX1 hO1 hcX hlX
      subst hr
      go_wp2_with fail
      go_ret2
      exact ⟨ao2, c2, rfl, by first | exact hO2 | (rw [hxe]; exact hO2), hk2⟩
end Go.Proofs.YtfgmbjdeimallaaGreatDoor
