/- A node of a group that leads: Read. -/
import Derived.Test.YtbegjhfkfmhidaaRaft34
import Derived.Test.YtbegjhfkfmhidaaRaft10


namespace Go.Proofs.Ytbegjhfkfmhidaa
open Go.RowKit

theorem rdsR {w : World} {b c : Nat} {ao : Option Addr} {r : Rf} (hB : Blk w b 71 r.cells) (hrs : r.rs = (ao, 0, c)) : ∀ p ∈ [((4 : Nat), fun w0 : World => w0.cell? ⟨b, 14, none⟩ = some (.slice ao 0 c)), ((10 : Nat), fun w0 : World => w0.cell? ⟨b, 5, none⟩ = some (.int .u64 (r).cm)), ((14 : Nat), fun w0 : World => w0.cell? ⟨b, 12, none⟩ = some (.int .u64 (r).rd))], p.2 w := by
  have h14 := hB.cell 14
  have h5 := hB.cell 5
  have h12 := hB.cell 12
  simp [Rf.cells, hrs] at h14 h5 h12
  intro p hp
  simp at hp
  rcases hp with rfl | rfl | rfl
  · exact h14
  · exact h5
  · exact h12

theorem sl_zero (w : World) (sz : Nat) (ao : Option Addr) : Sl w sz ao 0 0 [] :=
  ⟨by simp, Nat.le_refl _, Nat.zero_le _, fun _ => rfl, fun h => by omega, fun _ _ j u hj => by simp at hj, fun u hu => by simp at hu⟩

set_option maxRecDepth 100000 in
set_option maxHeartbeats 8000000 in
theorem rread_put (b : Nat) (ao : Option Addr) (c : Nat) (tag : Int) (r : Rf) (w w3 : World) (a2 : Option Addr) (c2 : Nat) (L : List Nat) (hB : Blk w3 b 71 r.cells) (hS : Sl w3 3 a2 1 c2 [.int .u64 tag, .int .u64 r.cm, .int .u64 r.rd]) (hb : ∀ ad, a2 = some ad → w.heap.size ≤ ad.block) (hbw : b < w.heap.size) (hk : Keeps L w w3) (hL : ∀ x ∈ L, x = b) (_ : r.rs = (ao, 0, c)) :
    ∃ a2' c2', Blk (w3.setCell ⟨b, 14, none⟩ (.slice a2 1 c2)) b 71 ({ r with rs := (a2', 1, c2') } : Rf).cells ∧ Sl (w3.setCell ⟨b, 14, none⟩ (.slice a2 1 c2)) 3 a2' 1 c2' [.int .u64 tag, .int .u64 r.cm, .int .u64 r.rd] ∧ (∀ ad, a2' = some ad → w.heap.size ≤ ad.block) ∧ Keeps [b] w (w3.setCell ⟨b, 14, none⟩ (.slice a2 1 c2)) := by
  have hks := (Keeps.refl [b] w3).set (p := ⟨b, 14, none⟩) (by simp) (.slice a2 1 c2)
  exact ⟨a2, c2, (hB.put 14 _).eq (by simp [Rf.cells]), hS.keep hks (fun ad e _ => by have := hb ad e; simp; omega), hb, (hk.mono (by intro x hx; simp [hL x hx])).trans hks⟩

set_option maxRecDepth 100000 in
set_option maxHeartbeats 8000000 in
theorem rread (b pb id : Nat) (r : Rf) (g : Lg) (ps : List Pe) (p : Pe) (tag : Int) (w : World) (hT : RT w b pb r g ps []) (hid : r.id = (id : Int)) (hn : r.n = (ps.length : Int)) (h7 : ps.length ≤ 7) (hp : ps[id]? = some p) (hro : r.ro = 2)
    (hg0 : 0 ≤ g.base) (hg1 : g.last < 800000) (hgb : g.base ≤ r.cm) (hgc : r.cm ≤ g.last) (hat : g.at r.cm = r.tm) (hrd0 : 0 ≤ r.rd) (hrd1 : r.rd < 1000000) (hnx : ∀ j q, ps[j]? = some q → j ≠ id → g.base < q.nx ∧ q.nx ≤ g.last + 1) (K : Nat) (hK : doneN r.n (ps.set id { p with ak := r.rd + 1 }) [⟨tag, r.cm, r.rd + 1⟩] = K) :
    Calls Try.prog 16 #[.pointer (some ⟨b, 0, none⟩), .int .u64 tag] w fun e w' => ∃ m d s ys, e = .returned (.tuple #[.agg ({ r with rd := r.rd + 1, ms := m, dn := d, rs := s } : Rf).out, .nilIface]) ∧
      RT w' b pb ({ r with rd := r.rd + 1, rs := s } : Rf).bare g (ps.set id { p with ak := r.rd + 1 }) (([⟨tag, r.cm, r.rd + 1⟩] : List Rq).drop K) ∧ m.2.1 = (oth id ps.length).length ∧ Ow w' w.heap.size m ys ∧ Fed { r with rd := r.rd + 1 } g (ps.set id { p with ak := r.rd + 1 }) (oth id ps.length) ys ∧
      w'.ownsRow w.heap.size 46 2 (.slice d.1 d.2.1 d.2.2) d.2.1 (dns (([⟨tag, r.cm, r.rd + 1⟩] : List Rq).take K)) ∧ Keeps [b, pb] w w' := by
  obtain ⟨ps', hps'⟩ : ∃ ps', ps' = ps.set id { p with ak := r.rd + 1 } := ⟨_, rfl⟩
  rw [← hps'] at hK ⊢
  have HPS := Lib.hid hps'
  have HK := Lib.hid hK
  clear hps' hK
  obtain ⟨hil, _⟩ := List.getElem?_eq_some_iff.1 hp
  have hiL : (id : Int) < (ps.length : Int) := by omega
  have hX1 := Blk.fresh w 39 #[.slice none 0 0, .int .u64 0, .int .i64 0, .int .u64 0, .slice none 0 0, .slice none 0 0]
  have hk1 := (Keeps.refl [b, pb] w).alloc (.cells #[.slice none 0 0, .int .u64 0, .int .i64 0, .int .u64 0, .slice none 0 0, .slice none 0 0] 39)
  have hT1 := hT.keep0 ((Keeps.refl [] w).alloc (.cells #[.slice none 0 0, .int .u64 0, .int .i64 0, .int .u64 0, .slice none 0 0, .slice none 0 0] 39))
  have hbw := hT.R.bN
  have hpw := hT.R.pN
  have hlw := hT.R.L.ltN
  have hbp := hT.R.ne
  have q1 : IntKind.u64.wrap (r.rd + 1) = r.rd + 1 := IntWalk.u64_in _ (by omega)
  clear hT
  go_enter Try.func16, Try.ntmps16
  go_upto_region 1 with (fail)
  generalize World.alloc w _ = w1 at *
  generalize hxe : w.heap.size = xb at *
  go_wp2_with fail
  refine (rleading b r w1 hT1.R.B hro).mono ?_
  rintro e w' ⟨rfl, hw⟩
  obtain rfl := hw.symm
  clear hw
  have hc := hT1.R.B.cell
  simp only [Rf.cells] at hc
  have hl := hT1.R.B.lt
  have T := fun m => lterm_any r.lg g r.cm (w1.drewN m) (hT1.R.L.at.keep0 ((Keeps.refl [] w1).drewN m)) hg0 (by omega) hgb hgc
  rw [hat] at T
  have HT := Lib.hid T
  clear T
  go_upto_region 4 with (fail)
  go_quiet ((go_at_call 29; exact Calls.quiet_of (HT.out _)))
  have hT2 := hT1.keep0 ((Keeps.refl [] w1).drewN nq)
  have hX2 := hX1.drewN nq
  have hk2 := hk1.drewN nq
  generalize World.drewN w1 nq = w2 at *
  clear hc hl hT1 hX1 hk1 HT
  have hc := hT2.R.B.cell
  simp only [Rf.cells, hT2.R.hps, hid] at hc
  have hl := hT2.R.B.lt
  have hf := hT2.R.B.free
  go_upto_region 8 with (fail)
  obtain ⟨r1, hr1⟩ : ∃ r1 : Rf, r1 = { r with rd := r.rd + 1 } := ⟨_, rfl⟩
  have hB3 := (hT2.R.B.put 12 (.int .u64 (r.rd + 1))).eq (cs' := r1.cells) (by rw [hr1]; simp [Rf.cells])
  have hks := (Keeps.refl [b] w2).set (p := ⟨b, 12, none⟩) (by simp) (.int .u64 (r.rd + 1))
  have hR3 := hT2.R.turnB hks (fun x hx => .inl (by simpa using hx)) hB3 (by rw [hr1]) (by rw [hr1])
  have hX3 := hX2.keep hks (by simp; omega)
  have hk3 := hk2.trans (hks.mono (L' := [b, pb]) (by intro x hx; simp at hx; simp [hx]))
  have hQ3 := hT2.Q.keepNil hks
  have hms := hT2.ms
  have hdn := hT2.dn
  generalize World.setCell w2 _ _ = w3 at *
  clear hc hl hf hT2 hX2 hk2 hks hB3
  have e1 : r1.rd = r.rd + 1 := by rw [hr1]
  have e2 : r1.id = (id : Int) := by rw [hr1]; exact hid
  have hc := hR3.B.cell
  simp only [Rf.cells, hR3.hps, e1, e2] at hc
  have hl := hR3.B.lt
  have hlP := hR3.P.lt
  have hfP := hR3.P.free
  obtain ⟨c0, c1, c2, c3⟩ := pe_cells hR3.P hp
  clear e1 e2
  refine wp_region_still_tail 14 (by kernel_rfl) (by kernel_rfl) ?_
  change wpStill _ _ (World.drew _) _ _ _
  simp only [List.take_succ_cons, List.take_zero, List.drop_succ_cons, List.drop_zero]
  repeat still_step
  refine wpStill_nil ?_
  change wpList _ _ _ _ _ (World.drew _)
  go_upto_region 9 with (fail)
  have hPz := (Blk.pe (q := { p with ak := r.rd + 1 }) hR3.P hp 2 (by omega) (v := .int .u64 (r.rd + 1)) rfl).drew
  rw [← HPS.out] at hPz
  have hks := ((Keeps.refl [pb] w3).set (p := ⟨pb, id * 4 + 2, none⟩) (by simp) (.int .u64 (r.rd + 1))).drew
  have hlen : ps'.length = ps.length := by rw [HPS.out]; simp
  have hR4 := hR3.turnP hks (fun x hx => .inl (by simpa using hx)) hPz hlen
  have hX4 := hX3.keep hks (by simp; omega)
  have hk4 := hk3.trans (hks.mono (L' := [b, pb]) (by intro x hx; simp at hx; simp [hx]))
  have hQ4 := hQ3.keepNil hks
  generalize World.drew (World.setCell w3 _ _) = w4 at *
  clear hc hl hlP hfP hR3 hX3 hk3 hks hPz hQ3 c0 c1 c2 c3
  obtain ⟨ao, c, hrs1⟩ : ∃ ao c, r1.rs = (ao, 0, c) := by
    have h0 : r.rs.2.1 = 0 := hQ4.len
    exact ⟨r.rs.1, r.rs.2.2, by rw [hr1]; exact Prod.ext rfl (Prod.ext h0 rfl)⟩
  have HR1 := Lib.hid hr1
  have HAT := Lib.hid hat
  clear hr1 hat q1
  go_cut [] (fun wx => ∃ a2 c2, Blk wx b 71 ({ r1 with rs := (a2, 1, c2) } : Rf).cells ∧ Sl wx 3 a2 1 c2 [.int .u64 tag, .int .u64 r1.cm, .int .u64 r1.rd] ∧ (∀ ad, a2 = some ad → w4.heap.size ≤ ad.block) ∧ Keeps [b] w4 wx)
  case first =>
    obtain ⟨i, z, hi, hz, hsz, hby, hzc⟩ := infoRR
    have hSw := rdsR hR4.B.drew hrs1
    have hb4 := hR4.B.lt
    refine startU (L := [((4 : Nat), fun w0 : World => w0.cell? ⟨b, 14, none⟩ = some (.slice ao 0 c)), ((10 : Nat), fun w0 : World => w0.cell? ⟨b, 5, none⟩ = some (.int .u64 (r1).cm)), ((14 : Nat), fun w0 : World => w0.cell? ⟨b, 12, none⟩ = some (.int .u64 (r1).rd))]) (by kernel_rfl) ?_
    refine takeU (i := 0) (v := ?_) rfl (by kernel_rfl) (fun _ _ _ h => h) (Or.inl ⟨by rfl, fun w0 hw0 => ?_⟩) (fun p hp _ => hSw p hp) ?_
    rotate_left
    · simp [Reads] at hw0
      go_simp
      try with_reducible rfl
    try go_simp
    refine takeU (i := 1) (v := ?_) rfl (by kernel_rfl) (fun _ _ _ h => h) (Or.inl ⟨by rfl, fun w0 hw0 => ?_⟩) (fun p hp _ => hSw p hp) ?_
    rotate_left
    · simp [Reads] at hw0
      go_simp
      try with_reducible rfl
    try go_simp
    refine takeU (i := 2) (v := ?_) rfl (by kernel_rfl) (fun _ _ _ h => h) (Or.inl ⟨by rfl, fun w0 hw0 => ?_⟩) (fun p hp _ => hSw p hp) ?_
    rotate_left
    · simp [Reads] at hw0
      go_simp
      try with_reducible rfl
    try go_simp
    refine takeU (i := 3) (v := ?_) rfl (by kernel_rfl) (fun _ _ _ h => h) (Or.inl ⟨by rfl, fun w0 hw0 => ?_⟩) (fun p hp _ => hSw p hp) ?_
    rotate_left
    · simp [Reads] at hw0
      go_simp
      try with_reducible rfl
    try go_simp
    refine takeU (i := 4) (v := ?_) rfl (by kernel_rfl) (fun _ _ _ h => h) (Or.inl ⟨by rfl, fun w0 hw0 => ?_⟩) (fun p hp _ => hSw p hp) ?_
    rotate_left
    · simp [Reads] at hw0
      go_simp
      try with_reducible rfl
    try go_simp
    refine takeU (i := 6) (v := ?_) rfl (by kernel_rfl) (fun _ _ _ h => h) (Or.inl ⟨by rfl, fun w0 hw0 => ?_⟩) (fun p hp _ => hSw p hp) ?_
    rotate_left
    · simp [Reads] at hw0
      go_simp
      try with_reducible rfl
    try go_simp
    refine takeU (i := 7) (v := ?_) rfl (by kernel_rfl) (fun _ _ _ h => h) (Or.inl ⟨by rfl, fun w0 hw0 => ?_⟩) (fun p hp _ => hSw p hp) ?_
    rotate_left
    · simp [Reads] at hw0
      go_simp
      try with_reducible rfl
    try go_simp
    refine takeU (i := 8) (v := ?_) rfl (by kernel_rfl) (fun _ _ _ h => h) (Or.inl ⟨by rfl, fun w0 hw0 => ?_⟩) (fun p hp _ => hSw p hp) ?_
    rotate_left
    · simp [Reads] at hw0
      go_simp
      try with_reducible rfl
    try go_simp
    refine takeU (i := 9) (v := ?_) rfl (by kernel_rfl) (fun _ _ _ h => h) (Or.inl ⟨by rfl, fun w0 hw0 => ?_⟩) (fun p hp _ => hSw p hp) ?_
    rotate_left
    · simp [Reads] at hw0
      go_simp
      try with_reducible rfl
    try go_simp
    refine takeU (i := 10) (v := ?_) rfl (by kernel_rfl) (fun _ _ _ h => h) (Or.inl ⟨by rfl, fun w0 hw0 => ?_⟩) (fun p hp _ => hSw p hp) ?_
    rotate_left
    · simp [Reads] at hw0
      go_simp
      try with_reducible rfl
    try go_simp
    refine takeU (i := 11) (v := ?_) rfl (by kernel_rfl) (fun _ _ _ h => h) (Or.inl ⟨by rfl, fun w0 hw0 => ?_⟩) (fun p hp _ => hSw p hp) ?_
    rotate_left
    · simp [Reads] at hw0
      go_simp
      try with_reducible rfl
    try go_simp
    refine takeU (i := 12) (v := ?_) rfl (by kernel_rfl) (fun _ _ _ h => h) (Or.inl ⟨by rfl, fun w0 hw0 => ?_⟩) (fun p hp _ => hSw p hp) ?_
    rotate_left
    · simp [Reads] at hw0
      go_simp
      try with_reducible rfl
    try go_simp
    refine takeU (i := 13) (v := ?_) rfl (by kernel_rfl) (fun _ _ _ h => h) (Or.inl ⟨by rfl, fun w0 hw0 => ?_⟩) (fun p hp _ => hSw p hp) ?_
    rotate_left
    · simp [Reads] at hw0
      go_simp
      try with_reducible rfl
    try go_simp
    refine takeU (i := 14) (v := ?_) rfl (by kernel_rfl) (fun _ _ _ h => h) (Or.inl ⟨by rfl, fun w0 hw0 => ?_⟩) (fun p hp _ => hSw p hp) ?_
    rotate_left
    · simp [Reads] at hw0
      go_simp
      try with_reducible rfl
    try go_simp
    refine takeU (i := 15) (v := ?_) rfl (by kernel_rfl) (fun _ _ _ h => h) (Or.inl ⟨by rfl, fun w0 hw0 => ?_⟩) (fun p hp _ => hSw p hp) ?_
    rotate_left
    · simp [Reads] at hw0
      go_simp
      try with_reducible rfl
    try go_simp
    refine twoU (i := 5) (j := 16) rfl rfl (by kernel_rfl) (fun K hK => ?_) (fun K hK => ?_)
    · skip
      rw [if_pos (show Region.wanted _ _ = true from rfl)]
      go_wp2_with fail
      refine (rclip0 ao c _).mono ?_
      rintro e w' ⟨rfl, hw⟩
      obtain rfl := hw.symm
      clear hw
      simp only []
      refine hK _ _ (fun p hp _ _ => hSw p hp) ?_
      clear hK K
      try go_simp
      refine oneU (i := 16) rfl (by kernel_rfl) (fun K hK => ?_)
      refine step_slice1 rfl 69 87 _ rfl i z (.agg #[.int .u64 tag, .int .u64 r1.cm, .int .u64 r1.rd]) 3 Try.underlying69 hi hz hsz rfl rfl (by omega) (by omega) ?_
      have hkA := (Keeps.refl [] w4.drew).alloc (.cells #[.int .u64 tag, .int .u64 r1.cm, .int .u64 r1.rd] 87)
      have hT : Sl (w4.drew.alloc (.cells #[.int .u64 tag, .int .u64 r1.cm, .int .u64 r1.rd] 87)) 3 (some ⟨w4.drew.heap.size, 0, none⟩) 1 1 [.int .u64 tag, .int .u64 r1.cm, .int .u64 r1.rd] := Sl.of_blk (Blk.fresh _ _ _) rfl (by decide) (by simp [Value.oneCell'])
      have hB5 := hR4.B.drew.keep hkA (by simp)
      clear hSw
      have hSw := rdsR hB5 hrs1
      have hs5 := hkA.size
      refine hK _ _ (fun p hp _ _ => hSw p hp) ?_
      clear hK K
      change wpAnyU _ _ _ _ _ _ _ _ (World.alloc _ (Obj.cells #[.int .u64 tag, .int .u64 r1.cm, .int .u64 r1.rd] 87))
      try go_simp
      refine oneU (i := 17) rfl (by kernel_rfl) (fun K hK => ?_)
      refine step_append_sl rfl _ _ 69 rfl 87 i z 3 24 Try.underlying69 hi hz hsz hby hzc (by decide) ao 0 0 [] rfl (sl_zero _ 3 ao) _ 1 1 _ rfl hT (by omega) (by decide) (by omega) ?_
      intro a2 c2 w6 hS6 hb6 hk6
      have hB6 := hB5.keep hk6 (by simp)
      clear hSw
      have hSw := rdsR hB6 hrs1
      refine hK _ _ (fun p hp _ _ => hSw p hp) ?_
      clear hK K
      try go_simp
      refine takeU (i := 18) (v := ?_) rfl (by kernel_rfl) (fun _ _ _ h => h) (Or.inl ⟨by rfl, fun w0 hw0 => ?_⟩) (fun p hp _ => hSw p hp) ?_
      rotate_left
      · simp [Reads] at hw0
        go_simp
        try with_reducible rfl
      try go_simp
      refine takeU (i := 19) (v := ?_) rfl (by kernel_rfl) (fun _ _ _ h => h) (Or.inl ⟨by rfl, fun w0 hw0 => ?_⟩) (fun p hp _ => hSw p hp) ?_
      rotate_left
      · simp [Reads] at hw0
        go_simp
        try with_reducible rfl
      try go_simp
      have hc := hB6.cell
      simp only [Rf.cells] at hc
      have hlb := hB6.lt
      have hf := hB6.free
      refine oneU (i := 20) rfl (by kernel_rfl) (fun K hK => ?_)
      go_simp
      refine hK _ _ (fun p hp h1 _ => by simp only [List.mem_cons, List.not_mem_nil, or_false] at hp; rcases hp with rfl | rfl | rfl <;> exact waits_absurd h1 (by kernel_rfl)) ?_
      clear hK K hSw hc hlb hf
      refine doneU (by kernel_rfl) ?_
      go_wp2_with fail
      go_meet
      exact rread_put b ao c tag r1 w4 w6 a2 c2 [] hB6 (by simpa using hS6) (fun ad e => Nat.le_trans hs5 (hb6 ad e).1) hb4 ((Keeps.refl [] w4).drew.trans (hkA.trans hk6)) (by simp) hrs1
    · skip
      refine step_slice1 rfl 69 87 _ rfl i z (.agg #[.int .u64 tag, .int .u64 r1.cm, .int .u64 r1.rd]) 3 Try.underlying69 hi hz hsz rfl rfl (by omega) (by omega) ?_
      have hkA := (Keeps.refl [] w4.drew).alloc (.cells #[.int .u64 tag, .int .u64 r1.cm, .int .u64 r1.rd] 87)
      have hT : Sl (w4.drew.alloc (.cells #[.int .u64 tag, .int .u64 r1.cm, .int .u64 r1.rd] 87)) 3 (some ⟨w4.drew.heap.size, 0, none⟩) 1 1 [.int .u64 tag, .int .u64 r1.cm, .int .u64 r1.rd] := Sl.of_blk (Blk.fresh _ _ _) rfl (by decide) (by simp [Value.oneCell'])
      have hB5 := hR4.B.drew.keep hkA (by simp)
      clear hSw
      have hSw := rdsR hB5 hrs1
      have hs5 := hkA.size
      refine hK _ _ (fun p hp _ _ => hSw p hp) ?_
      clear hK K
      change wpAnyU _ _ _ _ _ _ _ _ (World.alloc _ (Obj.cells #[.int .u64 tag, .int .u64 r1.cm, .int .u64 r1.rd] 87))
      try go_simp
      refine oneU (i := 5) rfl (by kernel_rfl) (fun K hK => ?_)
      rw [if_pos (show Region.wanted _ _ = true from rfl)]
      go_wp2_with fail
      refine (rclip0 ao c _).mono ?_
      rintro e w' ⟨rfl, hw⟩
      obtain rfl := hw.symm
      clear hw
      simp only []
      refine hK _ _ (fun p hp _ _ => hSw p hp) ?_
      clear hK K
      try go_simp
      refine oneU (i := 17) rfl (by kernel_rfl) (fun K hK => ?_)
      refine step_append_sl rfl _ _ 69 rfl 87 i z 3 24 Try.underlying69 hi hz hsz hby hzc (by decide) ao 0 0 [] rfl (sl_zero _ 3 ao) _ 1 1 _ rfl hT (by omega) (by decide) (by omega) ?_
      intro a2 c2 w6 hS6 hb6 hk6
      have hB6 := hB5.keep hk6 (by simp)
      clear hSw
      have hSw := rdsR hB6 hrs1
      refine hK _ _ (fun p hp _ _ => hSw p hp) ?_
      clear hK K
      try go_simp
      refine takeU (i := 18) (v := ?_) rfl (by kernel_rfl) (fun _ _ _ h => h) (Or.inl ⟨by rfl, fun w0 hw0 => ?_⟩) (fun p hp _ => hSw p hp) ?_
      rotate_left
      · simp [Reads] at hw0
        go_simp
        try with_reducible rfl
      try go_simp
      refine takeU (i := 19) (v := ?_) rfl (by kernel_rfl) (fun _ _ _ h => h) (Or.inl ⟨by rfl, fun w0 hw0 => ?_⟩) (fun p hp _ => hSw p hp) ?_
      rotate_left
      · simp [Reads] at hw0
        go_simp
        try with_reducible rfl
      try go_simp
      have hc := hB6.cell
      simp only [Rf.cells] at hc
      have hlb := hB6.lt
      have hf := hB6.free
      refine oneU (i := 20) rfl (by kernel_rfl) (fun K hK => ?_)
      go_simp
      refine hK _ _ (fun p hp h1 _ => by simp only [List.mem_cons, List.not_mem_nil, or_false] at hp; rcases hp with rfl | rfl | rfl <;> exact waits_absurd h1 (by kernel_rfl)) ?_
      clear hK K hSw hc hlb hf
      refine doneU (by kernel_rfl) ?_
      go_wp2_with fail
      go_meet
      exact rread_put b ao c tag r1 w4 w6 a2 c2 [] hB6 (by simpa using hS6) (fun ad e => Nat.le_trans hs5 (hb6 ad e).1) hb4 ((Keeps.refl [] w4).drew.trans (hkA.trans hk6)) (by simp) hrs1
  case rest =>
  obtain ⟨a2, c2, hB5, hS5, hb5, hk45⟩ := hcut
  obtain ⟨r2, hr2⟩ : ∃ r2 : Rf, r2 = { r1 with rs := (a2, 1, c2) } := ⟨_, rfl⟩
  rw [← hr2] at hB5
  have hR5 := hR4.turnB hk45 (fun x hx => .inl (by simpa using hx)) hB5 (by rw [hr2]) (by rw [hr2])
  have hR5' := hR5.grow hR5.size (Nat.le_refl _)
  have hX5 := hX4.keep hk45 (by simp; omega)
  have hk5 := hk4.trans (hk45.mono (L' := [b, pb]) (by intro x hx; simp at hx; simp [hx]))
  have hw4 : xb < w4.heap.size := hX4.lt
  have hb4 := hR4.B.lt
  have hp4 := hR4.P.lt
  have hq5 : QsAt wc wc.heap.size [b, pb, xb] r2.rs [⟨tag, r1.cm, r1.rd⟩] := by
    rw [hr2]
    refine ⟨hS5, rfl, fun ad e _ => ?_⟩
    have h1 := hb5 ad e
    have h2 := hS5.lt e (by simp)
    refine ⟨?_, h2⟩
    simp only [List.mem_cons, List.not_mem_nil, or_false, not_or]
    omega
  clear hR4 hX4 hk4 hk45 hR5 hB5 hS5 hb5 hQ4
  have hms2 : r2.ms = (none, 0, 0) := by rw [hr2, HR1.out]; exact hms
  have hdn2 : r2.dn = (none, 0, 0) := by rw [hr2, HR1.out]; exact hdn
  have hid2 : r2.id = (id : Int) := by rw [hr2, HR1.out]; exact hid
  have hn2 : r2.n = (ps'.length : Int) := by rw [hr2, HR1.out, hlen]; exact hn
  have HR2 := Lib.hid hr2
  clear hr2
  have hnx' : ∀ j q, ps'[j]? = some q → j ≠ id → g.base < q.nx ∧ q.nx ≤ g.last + 1 := by
    intro j q hq hj
    rw [HPS.out, List.getElem?_set_ne (fun e => hj e.symm)] at hq
    exact hnx j q hq hj
  have HF := Lib.hid (rfeedsAll b pb r2 g ps' id wc hR5' hms2 hid2 hn2 (by rw [hlen]; exact h7) hnx' hg0 (by omega))
  have hl := hR5'.B.lt
  go_wp2_with fail
  refine HF.out.mono ?_
  rintro e w6 ⟨ao6, c6, ys, rfl, hR6, hO6, hF6, hk6⟩
  have hH6 : HS [b, pb, xb] wc w6 b pb { r2 with ms := (ao6, (oth id ps'.length).length, c6) } g ps' ys [⟨tag, r1.cm, r1.rd⟩] [] :=
    ⟨hR6, hO6, by show w6.ownsRow _ _ 2 (.slice r2.dn.1 r2.dn.2.1 r2.dn.2.2) r2.dn.2.1 _; rw [hdn2]; exact World.ownsRow_nil _ _ _ _, hq5.keep hk6 (fun x hx => .inl (by simp at hx; simp [hx])), hk6.mono (by intro x hx; simp at hx; simp [hx]), by simp, by simp⟩
  have hs5 := hk5.size
  rw [hxe] at hs5
  have hdo : doneN ({ r2 with ms := (ao6, (oth id ps'.length).length, c6) } : Rf).n ps' [⟨tag, r1.cm, r1.rd⟩] = K := by
    rw [← HK.out]
    show doneN r2.n ps' [⟨tag, r1.cm, r1.rd⟩] = _
    rw [HR2.out, HR1.out]
  have HRL := Lib.hid (rreleased [b, pb, xb] b pb _ g ps' ys [⟨tag, r1.cm, r1.rd⟩] wc w6 hH6 hn2 (by rw [hlen]; exact h7) (by simp))
  rw [hdo] at HRL
  clear HF hR5' hR6 hO6 hk6 hq5 hdo
  have hl := hH6.R.B.lt
  clear hH6
  go_wp2_with fail
  refine HRL.out.mono ?_
  rintro e w7 ⟨d, s, rfl, hH7⟩
  obtain ⟨r3, hr3⟩ : ∃ r3 : Rf, r3 = { r2 with ms := (ao6, (oth id ps'.length).length, c6), dn := d, rs := s } := ⟨_, rfl⟩
  have hH7' : HS [b, pb, xb] wc w7 b pb r3 g ps' ys (([⟨tag, r1.cm, r1.rd⟩] : List Rq).drop K) (([⟨tag, r1.cm, r1.rd⟩] : List Rq).take K) := by rw [hr3]; exact hH7
  have he3 : r3 = { r with rd := r.rd + 1, ms := (ao6, (oth id ps'.length).length, c6), dn := d, rs := s } := by rw [hr3, HR2.out, HR1.out]
  have hb3 : r3.bare = ({ r with rd := r.rd + 1, rs := s } : Rf).bare := by rw [he3]; rfl
  have hcm1 : r1.cm = r.cm := by rw [HR1.out]
  have hrd1' : r1.rd = r.rd + 1 := by rw [HR1.out]
  rw [hcm1, hrd1'] at hH7'
  have HF6 : Fed { r with rd := r.rd + 1 } g ps' (oth id ps.length) ys := by
    have := hF6
    rw [hlen] at this
    obtain ⟨ms, h1, h2, h3⟩ := this
    refine ⟨ms, h1, h2, fun j i hj => ?_⟩
    obtain ⟨p, ea, el, ec, h4, h5⟩ := h3 j i hj
    refine ⟨p, ea, el, ec, h4, ?_⟩
    rw [h5, HR2.out, HR1.out]
    rfl
  have HE3 := Lib.hid (And.intro he3 (And.intro hb3 HF6))
  clear hr3 hH7 HRL hl hF6 he3 hb3 HF6 hcm1 hrd1' hms2 hdn2 hid2 hn2 hnx' hms hdn
  have hxc := hX5.lt
  have hX7 := hX5.keep hH7'.K (by simp; omega)
  have hk07 := hk5.trans hH7'.K
  clear hX5 hk5
  have hB7 := hH7'.R.B
  have hl := hB7.lt
  go_wp2_with fail
  refine (rready b r3 w7 hB7).mono ?_
  rintro e w8 ⟨rfl, hB8, hk8⟩
  have hX8 := hX7.keep hk8 (by simp; omega)
  have hP8 := hH7'.R.P.keep hk8 (by simpa using fun e => hbp e.symm)
  have hlgb : r3.lg ≠ b := fun e => by have := hH7'.R.L.notX; simp [e] at this
  have hL8 := hH7'.R.L.at.keepB hk8 hB7 r3.nostr hlgb
  have hO8 := own_keep hH7'.O hk8 (fun x hx => by have := own_lt hH7'.O x hx; have := hH7'.R.bN; simp; omega)
  have hD8 := own_keep hH7'.D hk8 (fun x hx => by have := own_lt hH7'.D x hx; have := hH7'.R.bN; simp; omega)
  have hQ8 := hH7'.Q.keep hk8 (fun x hx => .inl (by simp at hx; simp [hx]))
  have hk08 := hk07.trans (hk8.mono (L' := [b, pb]) (by intro x hx; simp at hx; simp [hx]))
  have hps8 : r3.bare.ps = (some ⟨pb, 0, none⟩, ps'.length, ps'.length) := hH7'.R.hps
  have hs8 := hH7'.R.size
  have hxN : xb < wc.heap.size := hxc
  have hfin : ∀ (w9 : World) (cs : Array Value), Blk w8 xb 39 cs → (∀ v ∈ cs.toList, ∀ s, v ≠ Value.string s) → Keeps [xb] w8 w9 → RT w9 b pb r3.bare g ps' (([⟨tag, r.cm, r.rd + 1⟩] : List Rq).drop K) ∧ Ow w9 xb r3.ms ys ∧ w9.ownsRow xb 46 2 (.slice r3.dn.1 r3.dn.2.1 r3.dn.2.2) r3.dn.2.1 (dns (([⟨tag, r.cm, r.rd + 1⟩] : List Rq).take K)) ∧ Keeps [b, pb] w w9 := by
    intro w9 cs hYc hcs hk9
    have hB9 := hB8.keep hk9 (by simp; omega)
    have hP9 := hP8.keep hk9 (by simp; omega)
    obtain ⟨_, _, hLb, _, _⟩ := hL8
    have hlgy : r3.lg ≠ xb := hLb.ne hYc (by decide)
    have hL9 := LogAt.keepB (by exact ⟨_, _, hLb, by assumption, by assumption⟩) hk9 hYc hcs hlgy
    refine ⟨⟨RC.of hB9 hP9 hL9 hps8, ?_, rfl, rfl, rfl⟩, ?_, ?_, ?_⟩
    · exact ((hQ8.keep hk9 (fun x hx => .inl (by simp at hx; simp [hx]))).add (fun x hx => by simp at hx; rcases hx with e | e <;> simp [e])).grow (by have := hk8.size; have := hk9.size; omega)
    · exact own_older (own_keep hO8 hk9 (fun x hx => by have := own_lt hO8 x hx; simp; omega)) hs5
    · exact own_older (own_keep hD8 hk9 (fun x hx => by have := own_lt hD8 x hx; simp; omega)) hs5
    · exact hk08.step hk9 (fun x hx => .inr (by simp at hx; omega))
  have HF := Lib.hid hfin
  clear hfin hP8 hL8 hO8 hD8 hQ8 hk08 hps8 hH7' hB7 hl hlgb hX7
  obtain ⟨m1, m2, m3, y1, y2, y3, n1, n2, n3, p1, p2, p3, ho⟩ := Rf.out6 r3
  have HO := Lib.hid ho
  rw [ho]
  clear ho
  have hcY := hX8.cell
  have hlY := hX8.lt
  have hfY := hX8.free
  have HX := Lib.hid (put6 hX8 (.slice m1 m2 m3) (.int .u64 y1) (.int .i64 y2) (.int .u64 y3) (.slice n1 n2 n3) (.slice p1 p2 p3))
  go_wp2_with fail
  have hY9 := HX.out
  generalize World.setCell (World.setCell _ _ _) ⟨xb, 5, none⟩ _ = w9 at *
  obtain ⟨f1, f2, f3, f4⟩ := HF.out w9 _ hX8 (by intro v hv s e; subst e; simp at hv) hY9.2
  obtain ⟨he3, hb3, hF6⟩ := HE3.out
  refine bodyPost_ret (results_ct rfl rfl hY9.1 Try.underlying39 rfl Try.sizeRE) rfl ⟨(ao6, (oth id ps'.length).length, c6), d, s, ys, by rw [← he3, HO.out]; rfl, by rw [← hb3]; exact f1, by rw [hlen], ?_, hF6, ?_, f4⟩
  · rw [he3, ← hxe] at f2
    exact f2
  · rw [he3, ← hxe] at f3
    exact f3
end Go.Proofs.Ytbegjhfkfmhidaa
