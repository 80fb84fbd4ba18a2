/- The document's rows: plain, Is, PutRow. -/
import Derived.Test.YtfgmbjdeimallaaGreatDoorWfZ
import Derived.Test.YtfgmbjdeimallaaGreatDoorWx
import Derived.Test.YtfgmbjdeimallaaGreatDoorWe
import Derived.Test.YtfgmbjdeimallaaGreatDoorErY
import Derived.Test.YtfgmbjdeimallaaGreatDoorVfZ
import Derived.Lib.SlicesS
import Derived.Test.YtfgmbjdeimallaaGreatDoorLit
import Derived.Deep.DeepCutAuto
import Derived.Deep.CutBlock

namespace Go.Proofs.YtfgmbjdeimallaaGreatDoor
open Go.RowKit Go.Lib

end Go.Proofs.YtfgmbjdeimallaaGreatDoor
/- WireWrites: classes of placed errors, Few, and the walk. -/

namespace Go.Proofs.YtfgmbjdeimallaaGreatDoor
open Go.RowKit Go.Lib

theorem classP_any {ev : Value} {f : Nat} {w : World} (hg : (w).cell? ⟨0, 0, none⟩ = some (.iface 140 (.agg #[.pointer (some ⟨1, 38, none⟩)]))) (h : ErrP w ev f) :
    Calls Tryz.prog 12 #[ev] w fun e w' => e = .returned (.int .i64 f) ∧ Keeps [] w w' := by
  cases h with
  | base h => exact class_any ev f w hg h.is
  | placed he hB h h0 =>
    subst he
    rcases h with ⟨_, h1⟩ | ⟨_, g, p, rfl, hG⟩
    · exact absurd h1 h0
    · exact (class_placed _ g f w hg (hB.cell 1) (hG.cell 1)).mono fun e w' h => ⟨h.1, Keeps.of_below h.2⟩

def few (l : List Va) (m : Int) : Bool := l.all (fun v => decide (v.text.size ≤ 100)) && decide ((l.length : Int) ≤ m)

end Go.Proofs.YtfgmbjdeimallaaGreatDoor
/- WalPlays: states of a wal as the law keeps them. -/

namespace Go.Proofs.YtfgmbjdeimallaaGreatDoor
open Go.RowKit Go.Lib

/-- a state, where its entries lie -/
structure Stp where
  s : Ws
  la : Option Addr
  lc : Nat
abbrev Stp.cells (x : Stp) : Array Value := #[.int .u64 (x.s.term : Nat), .int .i64 x.s.vote, .int .u64 (x.s.base : Nat), .int .u64 (x.s.bt : Nat), .slice x.la x.s.es.length x.lc]
def Stp.At (w : World) (x : Stp) : Prop := OwnO w 65 5 x.la x.s.es.length x.lc (ents x.s.es)
theorem Stp.At.keep0 {w w' : World} {x : Stp} (h : x.At w) (hk : Keeps [] w w') : x.At w' := OwnO.keep0 h hk
theorem Stp.At.re {w : World} {x : Stp} (h : x.At w) : Re w x.la x.lc x.s.es := OwnO.sl h (ents_one _)
theorem Tryz.sizeSt : (Tryz.prog.info? 57).map (·.size) = some 5 := by kernel_rfl

def EvPost (w : World) (l m : List Ent) (e : Ending) (w' : World) : Prop := ∃ q : Bool, e = .returned (.bool q) ∧ (q = true ↔ l = m) ∧ Keeps [] w w'
def IsPost (w : World) (a b : Ws) (e : Ending) (w' : World) : Prop := ∃ q : Bool, e = .returned (.bool q) ∧ (q = true ↔ a = b) ∧ Keeps [] w w'
set_option maxRecDepth 100000 in
set_option maxHeartbeats 1000000 in
/-- two rows of entries: the same ones? -/
theorem ents_eqv (ao bo : Option Addr) (c d : Nat) (l m : List Ent) (w : World) (h : Re w ao c l) (h' : Re w bo d m) :
    Calls Tryz.prog 19 #[.slice ao l.length c, .slice bo m.length d] w (EvPost w l m) := by
  have hmx := h.most
  have hcp := h.cap
  unfold maxLen at hmx
  have HL := Lib.hid (And.intro h h')
  clear h h'
  by_cases hlm : l.length = m.length
  rotate_left
  · have n0 : ¬ ((l.length : Int) = (m.length : Int)) := by omega
    have HN := Lib.hid hlm
    clear hlm
    go_enter Tryz.func19, Tryz.ntmps19
    go_wp2_with fail
    go_ret
    exact ⟨false, rfl, by simp; rintro rfl; exact HN.out rfl, Keeps.refl _ _⟩
  have n0 : (l.length : Int) = (m.length : Int) := by omega
  go_enter Tryz.func19, Tryz.ntmps19
  go_wp2_with fail
  go_loopw [5] (fun v wr => ∃ k : Nat, k ≤ l.length ∧ v = .int .i64 (k : Int) ∧ l.take k = m.take k ∧ Keeps [] w wr) (fun v _ => l.length - (intOf v).toNat)
  case atStart => exact ⟨0, by omega, rfl, by simp, Keeps.refl _ _⟩
  case round =>
    obtain ⟨k, hk, rfl, htk, hkk⟩ := hrel
    by_cases hkl : k < l.length
    rotate_left
    · have n1 : ¬ ((k : Int) < (l.length : Int)) := by omega
      have hke : l = m := by
        rw [List.take_of_length_le (by omega), List.take_of_length_le (by omega)] at htk
        exact htk
      have HE := Lib.hid hke
      clear hke htk
      go_wp2_with fail
      go_ret
      exact ⟨true, rfl, by simp [HE.out], hkk⟩
    have n1 : (k : Int) < (l.length : Int) := by omega
    have s1 : IntKind.i64.wrap ((k : Int) + 1) = k + 1 := IntWalk.i64_in _ (by omega)
    have hv := List.getElem?_eq_getElem hkl
    have hu := List.getElem?_eq_getElem (show k < m.length by omega)
    generalize l[k] = v at hv
    generalize m[k] = u at hu
    obtain ⟨bb, o, rfl, c0, c1, c2, c3, c4⟩ := Re.at (HL.out.1.keep0 hkk) hv
    obtain ⟨bb', o', rfl, d0, d1, d2, d3, d4⟩ := Re.at (HL.out.2.keep0 hkk) hu
    have HV := Lib.hid (And.intro hv (And.intro hu (And.intro htk n0)))
    have n2 : (k : Int) < (m.length : Int) := by omega
    clear hv hu htk hlm
    have HKK := Lib.hid hkk
    have fin : v ≠ u → ∀ n, EvPost w l m (.returned (.bool false)) (wr.drewN n) := fun hne n => ⟨false, rfl, by
      simp only [Bool.false_eq_true, false_iff]
      rintro rfl
      have h1 := HV.out.1.symm.trans HV.out.2.1
      simp at h1
      exact hne h1, HKK.out.drewN _⟩
    have FIN := Lib.hid fin
    clear fin
    obtain ⟨vt, vk, vc, vs, vq⟩ := v
    obtain ⟨ut, uk, uc, us, uq⟩ := u
    simp only at c0 c1 c2 c3 c4 d0 d1 d2 d3 d4
    by_cases hx : vt = ut
    rotate_left
    · have hx2 : ¬ ((vt : Int) = (ut : Int)) := by omega
      have hx3 : ¬ ((ut : Int) = (vt : Int)) := fun h => hx2 h.symm
      have HX := Lib.hid (FIN.out (by simp; intros; first | exact hx | assumption | (intros; contradiction)))
      clear hx
      go_wp2_with fail
      go_quiet (fail)
      go_wp2_with fail
      go_ret
      exact HX.out _
    subst hx
    by_cases hx : vk = uk
    rotate_left
    · have hx2 : ¬ (vk = uk) := hx
      have hx3 : ¬ ((uk) = (vk)) := fun h => hx2 h.symm
      have HX := Lib.hid (FIN.out (by simp; intros; first | exact hx | assumption | (intros; contradiction)))
      clear hx
      go_wp2_with fail
      go_quiet (fail)
      go_wp2_with fail
      go_ret
      exact HX.out _
    subst hx
    by_cases hx : vc = uc
    rotate_left
    · have hx2 : ¬ ((vc : Int) = (uc : Int)) := by omega
      have hx3 : ¬ ((uc : Int) = (vc : Int)) := fun h => hx2 h.symm
      have HX := Lib.hid (FIN.out (by simp; intros; first | exact hx | assumption | (intros; contradiction)))
      clear hx
      go_wp2_with fail
      go_quiet (fail)
      go_wp2_with fail
      go_ret
      exact HX.out _
    subst hx
    by_cases hx : vs = us
    rotate_left
    · have hx2 : ¬ ((vs : Int) = (us : Int)) := by omega
      have hx3 : ¬ ((us : Int) = (vs : Int)) := fun h => hx2 h.symm
      have HX := Lib.hid (FIN.out (by simp; intros; first | exact hx | assumption | (intros; contradiction)))
      clear hx
      go_wp2_with fail
      go_quiet (fail)
      go_wp2_with fail
      go_ret
      exact HX.out _
    subst hx
    by_cases hx : vq = uq
    rotate_left
    · have hx2 : ¬ (vq = uq) := hx
      have hx5 : (vq.toList == uq.toList) = false := (Lib.bytes_beq_false_iff _ _).2 hx
      have hx3 : ¬ ((uq) = (vq)) := fun h => hx2 h.symm
      have HX := Lib.hid (FIN.out (by simp; intros; first | exact hx | assumption | (intros; contradiction)))
      clear hx
      go_wp2_with fail
      go_quiet (fail)
      go_wp2_with fail
      go_ret
      exact HX.out _
    subst hx
    have HS : Hid (l.take (k + 1) = m.take (k + 1)) := Lib.hid (by
      rw [List.take_add_one, List.take_add_one, HV.out.1, HV.out.2.1, HV.out.2.2.1])
    go_wp2_with fail
    go_quiet (fail)
    go_wp2_with fail
    go_roundw
    case rel => exact ⟨k + 1, by omega, by simp, HS.out, HKK.out.drewN _⟩
    case measure => simp [intOf]; omega

set_option maxRecDepth 100000 in
theorem slast (x : Stp) (w : World) (hb : x.s.base ≤ 4611686018427387904) (hl : x.s.es.length ≤ 4611686018427387904) :
    Calls Tryz.prog 44 #[.agg x.cells] w fun e w' => e = .returned (.int .u64 (x.s.last : Nat)) ∧ Keeps [] w w' := by
  have hX := Blk.fresh w 57 x.cells
  have hk0 := (Keeps.refl [] w).alloc (.cells x.cells 57)
  unfold Ws.last
  have q1 : IntKind.u64.wrap (x.s.es.length : Int) = x.s.es.length := IntWalk.u64_in _ (by omega)
  have q2 : IntKind.u64.wrap ((x.s.base : Int) + (x.s.es.length : Int)) = ((x.s.base + x.s.es.length : Nat) : Int) := by rw [IntWalk.u64_in _ (by omega)]; omega
  go_enter Tryz.func44, Tryz.ntmps44
  go_wp2_with fail
  go_ret
  exact ⟨by simp, hk0⟩

section
variable {w : World} {wb db : Nat} {s : Ws} {z : Int} {E : List Nat}
set_option maxRecDepth 100000 in
set_option maxHeartbeats 4000000 in
/-- is a state what the wal tells? -/
theorem sis (x : Stp) (h : x.At w) (hW : WalAt w wb db s z E) (hl : s.es.length ≤ 1000000) :
    Calls Tryz.prog 24 #[.agg x.cells, .pointer (some ⟨wb, 0, none⟩)] w (IsPost w x.s s) := by
  obtain ⟨⟨xt, xv, xb, xbt, xes⟩, la, lc⟩ := x
  obtain ⟨t, v, b, bt, es⟩ := s
  obtain ⟨C, hC⟩ : ∃ C, C = Stp.cells ⟨⟨xt, xv, xb, xbt, xes⟩, la, lc⟩ := ⟨_, rfl⟩
  have hX := Blk.fresh w 57 C
  have hk0 := (Keeps.refl [] w).alloc (.cells C 57)
  have HW := Lib.hid (And.intro hk0 (And.intro (wbase (hW.keep0 hk0)) (And.intro (hW.keep0 hk0) (h.keep0 hk0))))
  have HX := Lib.hid hX
  subst hC
  clear h hW hk0 hX
  go_enter Tryz.func24, Tryz.ntmps24
  go_upto_region 1 with (fail)
  obtain ⟨yb, hyb⟩ : ∃ yb, yb = w.heap.size := ⟨_, rfl⟩
  rw [← hyb] at HX ⊢
  clear hyb
  generalize World.alloc w _ = w1 at *
  go_wp2_with fail
  refine HW.out.2.1.mono ?_
  rintro e w2 ⟨rfl, hk2⟩
  have HK2 := Lib.hid hk2
  clear hk2
  go_upto_region 2 with (fail)
  have hR0 : ∀ W : World, Keeps [] w2 W → ∀ q ∈ [((3 : Nat), fun w0 : World => Blk w0 yb 57 (Stp.cells ⟨⟨xt, xv, xb, xbt, xes⟩, la, lc⟩)), ((8 : Nat), fun w0 : World => w0.cell? ⟨yb, 2, none⟩ = some (.int .u64 (xb : Nat))), ((14 : Nat), fun w0 : World => w0.cell? ⟨yb, 3, none⟩ = some (.int .u64 (xbt : Nat))), ((21 : Nat), fun w0 : World => w0.cell? ⟨yb, 4, none⟩ = some (.slice la xes.length lc))], q.2 W := fun W hW q hq => by
    have hB := Blk.keep (Blk.keep HX.out HK2.out (by simp)) hW (by simp)
    simp only [List.mem_cons, List.not_mem_nil, or_false] at hq
    rcases hq with rfl | rfl | rfl | rfl
    · exact hB
    · exact hB.cell 2
    · exact hB.cell 3
    · exact hB.cell 4
  have HR0 := Lib.hid hR0
  have hkd := (Keeps.refl [] w2).drew
  have hSw := HR0.out _ hkd
  have HHd := Lib.hid (And.intro (whard ((HW.out.2.2.1.keep0 HK2.out).keep0 hkd)) hkd)
  clear hR0 hkd
  refine startU [((3 : Nat), fun w0 : World => Blk w0 yb 57 (Stp.cells ⟨⟨xt, xv, xb, xbt, xes⟩, la, lc⟩)), ((8 : Nat), fun w0 : World => w0.cell? ⟨yb, 2, none⟩ = some (.int .u64 (xb : Nat))), ((14 : Nat), fun w0 : World => w0.cell? ⟨yb, 3, none⟩ = some (.int .u64 (xbt : Nat))), ((21 : Nat), fun w0 : World => w0.cell? ⟨yb, 4, none⟩ = some (.slice la xes.length lc))] (by kernel_rfl) ?_
  generalize World.drew w2 = w3 at *
  refine takeU (i := 0) (v := ?_) rfl (by kernel_rfl) (fun _ _ _ h => h) (Or.inl ⟨by rfl, fun w0 hw0 => ?_⟩) (fun p hp _ => hSw p hp) ?_
  rotate_left
  · simp [Reads] at hw0
    go_simp
    try with_reducible rfl
  try go_simp
  refine takeU (i := 2) (v := ?_) rfl (by kernel_rfl) (fun _ _ _ h => h) (Or.inl ⟨by rfl, fun w0 hw0 => ?_⟩) (fun p hp _ => hSw p hp) ?_
  rotate_left
  · simp [Reads] at hw0
    go_simp
    try with_reducible rfl
  try go_simp
  refine takeU (i := 3) (v := .agg #[.int .u64 (xt : Nat), .int .i64 xv]) rfl (by kernel_rfl) (fun _ _ _ h => h) (Or.inl ⟨by rfl, fun w0 hw0 => ?_⟩) (fun p hp _ => hSw p hp) ?_
  · simp [Reads] at hw0
    exact load_yieldsW 25 (.tmp 14) rfl yb 0 2 rfl 57 _ _ hw0 Tryz.underlying25 rfl Tryz.sizeHard (by simp) _ rfl
  try go_simp
  clear hSw
  refine oneU (i := 1) rfl (by kernel_rfl) (fun K hK => ?_)
  rw [if_pos (show Region.wanted _ _ = true from rfl)]
  go_wp2_with fail
  refine HHd.out.1.mono ?_
  rintro e w4 ⟨rfl, hk4⟩
  try dsimp only
  have hk24 := HHd.out.2.trans hk4
  refine hK _ _ (fun q hq _ _ => HR0.out _ hk24 q hq) ?_
  clear hK K hk4
  try go_simp
  have hSw := HR0.out _ hk24
  have HK4 := Lib.hid ((HW.out.1.trans HK2.out).trans hk24)
  have HK24 := Lib.hid hk24
  clear hk24
  by_cases ht : xt = t
  rotate_left
  · have h1 : ¬ ((t : Int) = (xt : Int)) := by omega
    have h2 : ¬ ((xt : Int) = (t : Int)) := by omega
    have FIN : Hid (IsPost w ⟨xt, xv, xb, xbt, xes⟩ ⟨t, v, b, bt, es⟩ (.returned (.bool false)) w4) := Lib.hid ⟨false, rfl, by simp; intro h; exact absurd h ht, HK4.out⟩
    clear ht
    refine takeU (i := 4) (v := ?_) rfl (by kernel_rfl) (fun _ _ _ h => h) (Or.inl ⟨by rfl, fun w0 hw0 => ?_⟩) (fun p hp _ => hSw p hp) ?_
    rotate_left
    · simp [Reads] at hw0
      go_simp
      try with_reducible rfl
    try go_simp
    refine takeU (i := 5) (v := ?_) rfl (by kernel_rfl) (fun _ _ _ h => h) (Or.inl ⟨by rfl, fun w0 hw0 => ?_⟩) (fun p hp _ => hSw p hp) ?_
    rotate_left
    · simp [Reads] at hw0
      go_simp
      try with_reducible rfl
    try go_simp
    refine takeU (i := 6) (v := undef) rfl (by kernel_rfl) (fun _ _ _ h => h) (Or.inr ⟨by rfl, rfl⟩) (fun p hp _ => hSw p hp) ?_
    try go_simp
    refine takeU (i := 7) (v := undef) rfl (by kernel_rfl) (fun _ _ _ h => h) (Or.inr ⟨by rfl, rfl⟩) (fun p hp _ => hSw p hp) ?_
    try go_simp
    refine takeU (i := 8) (v := undef) rfl (by kernel_rfl) (fun _ _ _ h => h) (Or.inr ⟨by rfl, rfl⟩) (fun p hp _ => hSw p hp) ?_
    try go_simp
    refine takeU (i := 9) (v := undef) rfl (by kernel_rfl) (fun _ _ _ h => h) (Or.inr ⟨by rfl, rfl⟩) (fun p hp _ => hSw p hp) ?_
    try go_simp
    refine takeU (i := 10) (v := ?_) rfl (by kernel_rfl) (fun _ _ _ h => h) (Or.inl ⟨by rfl, fun w0 hw0 => ?_⟩) (fun p hp _ => hSw p hp) ?_
    rotate_left
    · simp [Reads] at hw0
      go_simp
      try with_reducible rfl
    try go_simp
    refine takeU (i := 11) (v := ?_) rfl (by kernel_rfl) (fun _ _ _ h => h) (Or.inl ⟨by rfl, fun w0 hw0 => ?_⟩) (fun p hp _ => hSw p hp) ?_
    rotate_left
    · simp [Reads] at hw0
      go_simp
      try with_reducible rfl
    try go_simp
    refine takeU (i := 12) (v := undef) rfl (by kernel_rfl) (fun _ _ _ h => h) (Or.inr ⟨by rfl, rfl⟩) (fun p hp _ => hSw p hp) ?_
    try go_simp
    refine takeU (i := 13) (v := undef) rfl (by kernel_rfl) (fun _ _ _ h => h) (Or.inr ⟨by rfl, rfl⟩) (fun p hp _ => hSw p hp) ?_
    try go_simp
    refine takeU (i := 14) (v := undef) rfl (by kernel_rfl) (fun _ _ _ h => h) (Or.inr ⟨by rfl, rfl⟩) (fun p hp _ => hSw p hp) ?_
    try go_simp
    refine takeU (i := 15) (v := undef) rfl (by kernel_rfl) (fun _ _ _ h => h) (Or.inr ⟨by rfl, rfl⟩) (fun p hp _ => hSw p hp) ?_
    try go_simp
    refine takeU (i := 16) (v := ?_) rfl (by kernel_rfl) (fun _ _ _ h => h) (Or.inl ⟨by rfl, fun w0 hw0 => ?_⟩) (fun p hp _ => hSw p hp) ?_
    rotate_left
    · simp [Reads] at hw0
      go_simp
      try with_reducible rfl
    try go_simp
    refine takeU (i := 17) (v := ?_) rfl (by kernel_rfl) (fun _ _ _ h => h) (Or.inl ⟨by rfl, fun w0 hw0 => ?_⟩) (fun p hp _ => hSw p hp) ?_
    rotate_left
    · simp [Reads] at hw0
      go_simp
      try with_reducible rfl
    try go_simp
    refine takeU (i := 18) (v := undef) rfl (by kernel_rfl) (fun _ _ _ h => h) (Or.inr ⟨by rfl, rfl⟩) (fun p hp _ => hSw p hp) ?_
    try go_simp
    refine takeU (i := 19) (v := undef) rfl (by kernel_rfl) (fun _ _ _ h => h) (Or.inr ⟨by rfl, rfl⟩) (fun p hp _ => hSw p hp) ?_
    try go_simp
    refine takeU (i := 20) (v := undef) rfl (by kernel_rfl) (fun _ _ _ h => h) (Or.inr ⟨by rfl, rfl⟩) (fun p hp _ => hSw p hp) ?_
    try go_simp
    refine takeU (i := 21) (v := undef) rfl (by kernel_rfl) (fun _ _ _ h => h) (Or.inr ⟨by rfl, rfl⟩) (fun p hp _ => hSw p hp) ?_
    try go_simp
    refine takeU (i := 22) (v := undef) rfl (by kernel_rfl) (fun _ _ _ h => h) (Or.inr ⟨by rfl, rfl⟩) (fun p hp _ => hSw p hp) ?_
    try go_simp
    refine takeU (i := 23) (v := ?_) rfl (by kernel_rfl) (fun _ _ _ h => h) (Or.inl ⟨by rfl, fun w0 hw0 => ?_⟩) (fun p hp _ => hSw p hp) ?_
    rotate_left
    · simp [Reads] at hw0
      go_simp
      try with_reducible rfl
    try go_simp
    refine takeU (i := 24) (v := ?_) rfl (by kernel_rfl) (fun _ _ _ h => h) (Or.inl ⟨by rfl, fun w0 hw0 => ?_⟩) (fun p hp _ => hSw p hp) ?_
    rotate_left
    · simp [Reads] at hw0
      go_simp
      try with_reducible rfl
    try go_simp
    refine doneU (by kernel_rfl) ?_
    go_wp2_with fail
    go_ret
    exact FIN.out
  subst ht
  by_cases hv : xv = v
  rotate_left
  · have h2 : ¬ (v = xv) := fun h => hv h.symm
    have FIN : Hid (IsPost w ⟨xt, xv, xb, xbt, xes⟩ ⟨xt, v, b, bt, es⟩ (.returned (.bool false)) w4) := Lib.hid ⟨false, rfl, by simp; intro h; exact absurd h hv, HK4.out⟩
    refine takeU (i := 4) (v := ?_) rfl (by kernel_rfl) (fun _ _ _ h => h) (Or.inl ⟨by rfl, fun w0 hw0 => ?_⟩) (fun p hp _ => hSw p hp) ?_
    rotate_left
    · simp [Reads] at hw0
      go_simp
      try with_reducible rfl
    try go_simp
    refine takeU (i := 5) (v := ?_) rfl (by kernel_rfl) (fun _ _ _ h => h) (Or.inl ⟨by rfl, fun w0 hw0 => ?_⟩) (fun p hp _ => hSw p hp) ?_
    rotate_left
    · simp [Reads] at hw0
      go_simp
      try with_reducible rfl
    try go_simp
    refine takeU (i := 6) (v := undef) rfl (by kernel_rfl) (fun _ _ _ h => h) (Or.inr ⟨by rfl, rfl⟩) (fun p hp _ => hSw p hp) ?_
    try go_simp
    refine takeU (i := 7) (v := undef) rfl (by kernel_rfl) (fun _ _ _ h => h) (Or.inr ⟨by rfl, rfl⟩) (fun p hp _ => hSw p hp) ?_
    try go_simp
    refine takeU (i := 8) (v := undef) rfl (by kernel_rfl) (fun _ _ _ h => h) (Or.inr ⟨by rfl, rfl⟩) (fun p hp _ => hSw p hp) ?_
    try go_simp
    refine takeU (i := 9) (v := undef) rfl (by kernel_rfl) (fun _ _ _ h => h) (Or.inr ⟨by rfl, rfl⟩) (fun p hp _ => hSw p hp) ?_
    try go_simp
    refine takeU (i := 10) (v := ?_) rfl (by kernel_rfl) (fun _ _ _ h => h) (Or.inl ⟨by rfl, fun w0 hw0 => ?_⟩) (fun p hp _ => hSw p hp) ?_
    rotate_left
    · simp [Reads] at hw0
      go_simp
      try with_reducible rfl
    try go_simp
    refine takeU (i := 11) (v := ?_) rfl (by kernel_rfl) (fun _ _ _ h => h) (Or.inl ⟨by rfl, fun w0 hw0 => ?_⟩) (fun p hp _ => hSw p hp) ?_
    rotate_left
    · simp [Reads] at hw0
      go_simp
      try with_reducible rfl
    try go_simp
    refine takeU (i := 12) (v := undef) rfl (by kernel_rfl) (fun _ _ _ h => h) (Or.inr ⟨by rfl, rfl⟩) (fun p hp _ => hSw p hp) ?_
    try go_simp
    refine takeU (i := 13) (v := undef) rfl (by kernel_rfl) (fun _ _ _ h => h) (Or.inr ⟨by rfl, rfl⟩) (fun p hp _ => hSw p hp) ?_
    try go_simp
    refine takeU (i := 14) (v := undef) rfl (by kernel_rfl) (fun _ _ _ h => h) (Or.inr ⟨by rfl, rfl⟩) (fun p hp _ => hSw p hp) ?_
    try go_simp
    refine takeU (i := 15) (v := undef) rfl (by kernel_rfl) (fun _ _ _ h => h) (Or.inr ⟨by rfl, rfl⟩) (fun p hp _ => hSw p hp) ?_
    try go_simp
    refine takeU (i := 16) (v := ?_) rfl (by kernel_rfl) (fun _ _ _ h => h) (Or.inl ⟨by rfl, fun w0 hw0 => ?_⟩) (fun p hp _ => hSw p hp) ?_
    rotate_left
    · simp [Reads] at hw0
      go_simp
      try with_reducible rfl
    try go_simp
    refine takeU (i := 17) (v := ?_) rfl (by kernel_rfl) (fun _ _ _ h => h) (Or.inl ⟨by rfl, fun w0 hw0 => ?_⟩) (fun p hp _ => hSw p hp) ?_
    rotate_left
    · simp [Reads] at hw0
      go_simp
      try with_reducible rfl
    try go_simp
    refine takeU (i := 18) (v := undef) rfl (by kernel_rfl) (fun _ _ _ h => h) (Or.inr ⟨by rfl, rfl⟩) (fun p hp _ => hSw p hp) ?_
    try go_simp
    refine takeU (i := 19) (v := undef) rfl (by kernel_rfl) (fun _ _ _ h => h) (Or.inr ⟨by rfl, rfl⟩) (fun p hp _ => hSw p hp) ?_
    try go_simp
    refine takeU (i := 20) (v := undef) rfl (by kernel_rfl) (fun _ _ _ h => h) (Or.inr ⟨by rfl, rfl⟩) (fun p hp _ => hSw p hp) ?_
    try go_simp
    refine takeU (i := 21) (v := undef) rfl (by kernel_rfl) (fun _ _ _ h => h) (Or.inr ⟨by rfl, rfl⟩) (fun p hp _ => hSw p hp) ?_
    try go_simp
    refine takeU (i := 22) (v := undef) rfl (by kernel_rfl) (fun _ _ _ h => h) (Or.inr ⟨by rfl, rfl⟩) (fun p hp _ => hSw p hp) ?_
    try go_simp
    refine takeU (i := 23) (v := ?_) rfl (by kernel_rfl) (fun _ _ _ h => h) (Or.inl ⟨by rfl, fun w0 hw0 => ?_⟩) (fun p hp _ => hSw p hp) ?_
    rotate_left
    · simp [Reads] at hw0
      go_simp
      try with_reducible rfl
    try go_simp
    refine takeU (i := 24) (v := ?_) rfl (by kernel_rfl) (fun _ _ _ h => h) (Or.inl ⟨by rfl, fun w0 hw0 => ?_⟩) (fun p hp _ => hSw p hp) ?_
    rotate_left
    · simp [Reads] at hw0
      go_simp
      try with_reducible rfl
    try go_simp
    refine doneU (by kernel_rfl) ?_
    go_wp2_with fail
    go_ret
    exact FIN.out
  subst hv
  refine takeU (i := 4) (v := ?_) rfl (by kernel_rfl) (fun _ _ _ h => h) (Or.inl ⟨by rfl, fun w0 hw0 => ?_⟩) (fun p hp _ => hSw p hp) ?_
  rotate_left
  · simp [Reads] at hw0
    go_simp
    try with_reducible rfl
  try go_simp
  refine takeU (i := 5) (v := ?_) rfl (by kernel_rfl) (fun _ _ _ h => h) (Or.inl ⟨by rfl, fun w0 hw0 => ?_⟩) (fun p hp _ => hSw p hp) ?_
  rotate_left
  · simp [Reads] at hw0
    go_simp
    try with_reducible rfl
  try go_simp
  by_cases hb : xb = b
  rotate_left
  · have h1 : ((b : Int) == (xb : Int)) = false := by simp; omega
    have FIN : Hid (IsPost w ⟨xt, xv, xb, xbt, xes⟩ ⟨xt, xv, b, bt, es⟩ (.returned (.bool false)) w4) := Lib.hid ⟨false, rfl, by simp; intro h; exact absurd h hb, HK4.out⟩
    clear hb
    refine takeU (i := 6) (v := ?_) rfl (by kernel_rfl) (fun _ _ _ h => h) (Or.inl ⟨by rfl, fun w0 hw0 => ?_⟩) (fun p hp _ => hSw p hp) ?_
    rotate_left
    · simp [Reads] at hw0
      go_simp
      try with_reducible rfl
    try go_simp
    refine takeU (i := 7) (v := ?_) rfl (by kernel_rfl) (fun _ _ _ h => h) (Or.inl ⟨by rfl, fun w0 hw0 => ?_⟩) (fun p hp _ => hSw p hp) ?_
    rotate_left
    · simp [Reads] at hw0
      go_simp
      try with_reducible rfl
    try go_simp
    refine takeU (i := 8) (v := ?_) rfl (by kernel_rfl) (fun _ _ _ h => h) (Or.inl ⟨by rfl, fun w0 hw0 => ?_⟩) (fun p hp _ => hSw p hp) ?_
    rotate_left
    · simp [Reads] at hw0
      go_simp
      try with_reducible rfl
    try go_simp
    refine takeU (i := 9) (v := ?_) rfl (by kernel_rfl) (fun _ _ _ h => h) (Or.inl ⟨by rfl, fun w0 hw0 => ?_⟩) (fun p hp _ => hSw p hp) ?_
    rotate_left
    · simp [Reads] at hw0
      go_simp
      try with_reducible rfl
    try go_simp
    refine takeU (i := 10) (v := ?_) rfl (by kernel_rfl) (fun _ _ _ h => h) (Or.inl ⟨by rfl, fun w0 hw0 => ?_⟩) (fun p hp _ => hSw p hp) ?_
    rotate_left
    · simp [Reads] at hw0
      go_simp
      try with_reducible rfl
    try go_simp
    refine takeU (i := 11) (v := ?_) rfl (by kernel_rfl) (fun _ _ _ h => h) (Or.inl ⟨by rfl, fun w0 hw0 => ?_⟩) (fun p hp _ => hSw p hp) ?_
    rotate_left
    · simp [Reads] at hw0
      go_simp
      try with_reducible rfl
    try go_simp
    refine takeU (i := 12) (v := undef) rfl (by kernel_rfl) (fun _ _ _ h => h) (Or.inr ⟨by rfl, rfl⟩) (fun p hp _ => hSw p hp) ?_
    try go_simp
    refine takeU (i := 13) (v := undef) rfl (by kernel_rfl) (fun _ _ _ h => h) (Or.inr ⟨by rfl, rfl⟩) (fun p hp _ => hSw p hp) ?_
    try go_simp
    refine takeU (i := 14) (v := undef) rfl (by kernel_rfl) (fun _ _ _ h => h) (Or.inr ⟨by rfl, rfl⟩) (fun p hp _ => hSw p hp) ?_
    try go_simp
    refine takeU (i := 15) (v := undef) rfl (by kernel_rfl) (fun _ _ _ h => h) (Or.inr ⟨by rfl, rfl⟩) (fun p hp _ => hSw p hp) ?_
    try go_simp
    refine takeU (i := 16) (v := ?_) rfl (by kernel_rfl) (fun _ _ _ h => h) (Or.inl ⟨by rfl, fun w0 hw0 => ?_⟩) (fun p hp _ => hSw p hp) ?_
    rotate_left
    · simp [Reads] at hw0
      go_simp
      try with_reducible rfl
    try go_simp
    refine takeU (i := 17) (v := ?_) rfl (by kernel_rfl) (fun _ _ _ h => h) (Or.inl ⟨by rfl, fun w0 hw0 => ?_⟩) (fun p hp _ => hSw p hp) ?_
    rotate_left
    · simp [Reads] at hw0
      go_simp
      try with_reducible rfl
    try go_simp
    refine takeU (i := 18) (v := undef) rfl (by kernel_rfl) (fun _ _ _ h => h) (Or.inr ⟨by rfl, rfl⟩) (fun p hp _ => hSw p hp) ?_
    try go_simp
    refine takeU (i := 19) (v := undef) rfl (by kernel_rfl) (fun _ _ _ h => h) (Or.inr ⟨by rfl, rfl⟩) (fun p hp _ => hSw p hp) ?_
    try go_simp
    refine takeU (i := 20) (v := undef) rfl (by kernel_rfl) (fun _ _ _ h => h) (Or.inr ⟨by rfl, rfl⟩) (fun p hp _ => hSw p hp) ?_
    try go_simp
    refine takeU (i := 21) (v := undef) rfl (by kernel_rfl) (fun _ _ _ h => h) (Or.inr ⟨by rfl, rfl⟩) (fun p hp _ => hSw p hp) ?_
    try go_simp
    refine takeU (i := 22) (v := undef) rfl (by kernel_rfl) (fun _ _ _ h => h) (Or.inr ⟨by rfl, rfl⟩) (fun p hp _ => hSw p hp) ?_
    try go_simp
    refine takeU (i := 23) (v := ?_) rfl (by kernel_rfl) (fun _ _ _ h => h) (Or.inl ⟨by rfl, fun w0 hw0 => ?_⟩) (fun p hp _ => hSw p hp) ?_
    rotate_left
    · simp [Reads] at hw0
      go_simp
      try with_reducible rfl
    try go_simp
    refine takeU (i := 24) (v := ?_) rfl (by kernel_rfl) (fun _ _ _ h => h) (Or.inl ⟨by rfl, fun w0 hw0 => ?_⟩) (fun p hp _ => hSw p hp) ?_
    rotate_left
    · simp [Reads] at hw0
      go_simp
      try with_reducible rfl
    try go_simp
    refine doneU (by kernel_rfl) ?_
    go_wp2_with fail
    go_ret
    exact FIN.out
  subst hb
  refine takeU (i := 6) (v := ?_) rfl (by kernel_rfl) (fun _ _ _ h => h) (Or.inl ⟨by rfl, fun w0 hw0 => ?_⟩) (fun p hp _ => hSw p hp) ?_
  rotate_left
  · simp [Reads] at hw0
    go_simp
    try with_reducible rfl
  try go_simp
  refine takeU (i := 7) (v := ?_) rfl (by kernel_rfl) (fun _ _ _ h => h) (Or.inl ⟨by rfl, fun w0 hw0 => ?_⟩) (fun p hp _ => hSw p hp) ?_
  rotate_left
  · simp [Reads] at hw0
    go_simp
    try with_reducible rfl
  try go_simp
  refine takeU (i := 8) (v := ?_) rfl (by kernel_rfl) (fun _ _ _ h => h) (Or.inl ⟨by rfl, fun w0 hw0 => ?_⟩) (fun p hp _ => hSw p hp) ?_
  rotate_left
  · simp [Reads] at hw0
    go_simp
    try with_reducible rfl
  try go_simp
  refine takeU (i := 9) (v := ?_) rfl (by kernel_rfl) (fun _ _ _ h => h) (Or.inl ⟨by rfl, fun w0 hw0 => ?_⟩) (fun p hp _ => hSw p hp) ?_
  rotate_left
  · simp [Reads] at hw0
    go_simp
    try with_reducible rfl
  try go_simp
  refine takeU (i := 10) (v := ?_) rfl (by kernel_rfl) (fun _ _ _ h => h) (Or.inl ⟨by rfl, fun w0 hw0 => ?_⟩) (fun p hp _ => hSw p hp) ?_
  rotate_left
  · simp [Reads] at hw0
    go_simp
    try with_reducible rfl
  try go_simp
  refine takeU (i := 11) (v := ?_) rfl (by kernel_rfl) (fun _ _ _ h => h) (Or.inl ⟨by rfl, fun w0 hw0 => ?_⟩) (fun p hp _ => hSw p hp) ?_
  rotate_left
  · simp [Reads] at hw0
    go_simp
    try with_reducible rfl
  try go_simp
  by_cases hb : xbt = bt
  rotate_left
  · have h1 : ((bt : Int) == (xbt : Int)) = false := by simp; omega
    have FIN : Hid (IsPost w ⟨xt, xv, xb, xbt, xes⟩ ⟨xt, xv, xb, bt, es⟩ (.returned (.bool false)) w4) := Lib.hid ⟨false, rfl, by simp; intro h; exact absurd h hb, HK4.out⟩
    clear hb
    refine takeU (i := 12) (v := ?_) rfl (by kernel_rfl) (fun _ _ _ h => h) (Or.inl ⟨by rfl, fun w0 hw0 => ?_⟩) (fun p hp _ => hSw p hp) ?_
    rotate_left
    · simp [Reads] at hw0
      go_simp
      try with_reducible rfl
    try go_simp
    refine takeU (i := 13) (v := ?_) rfl (by kernel_rfl) (fun _ _ _ h => h) (Or.inl ⟨by rfl, fun w0 hw0 => ?_⟩) (fun p hp _ => hSw p hp) ?_
    rotate_left
    · simp [Reads] at hw0
      go_simp
      try with_reducible rfl
    try go_simp
    refine takeU (i := 14) (v := ?_) rfl (by kernel_rfl) (fun _ _ _ h => h) (Or.inl ⟨by rfl, fun w0 hw0 => ?_⟩) (fun p hp _ => hSw p hp) ?_
    rotate_left
    · simp [Reads] at hw0
      go_simp
      try with_reducible rfl
    try go_simp
    refine takeU (i := 15) (v := ?_) rfl (by kernel_rfl) (fun _ _ _ h => h) (Or.inl ⟨by rfl, fun w0 hw0 => ?_⟩) (fun p hp _ => hSw p hp) ?_
    rotate_left
    · simp [Reads] at hw0
      go_simp
      try with_reducible rfl
    try go_simp
    refine takeU (i := 16) (v := ?_) rfl (by kernel_rfl) (fun _ _ _ h => h) (Or.inl ⟨by rfl, fun w0 hw0 => ?_⟩) (fun p hp _ => hSw p hp) ?_
    rotate_left
    · simp [Reads] at hw0
      go_simp
      try with_reducible rfl
    try go_simp
    refine takeU (i := 17) (v := ?_) rfl (by kernel_rfl) (fun _ _ _ h => h) (Or.inl ⟨by rfl, fun w0 hw0 => ?_⟩) (fun p hp _ => hSw p hp) ?_
    rotate_left
    · simp [Reads] at hw0
      go_simp
      try with_reducible rfl
    try go_simp
    refine takeU (i := 18) (v := undef) rfl (by kernel_rfl) (fun _ _ _ h => h) (Or.inr ⟨by rfl, rfl⟩) (fun p hp _ => hSw p hp) ?_
    try go_simp
    refine takeU (i := 19) (v := undef) rfl (by kernel_rfl) (fun _ _ _ h => h) (Or.inr ⟨by rfl, rfl⟩) (fun p hp _ => hSw p hp) ?_
    try go_simp
    refine takeU (i := 20) (v := undef) rfl (by kernel_rfl) (fun _ _ _ h => h) (Or.inr ⟨by rfl, rfl⟩) (fun p hp _ => hSw p hp) ?_
    try go_simp
    refine takeU (i := 21) (v := undef) rfl (by kernel_rfl) (fun _ _ _ h => h) (Or.inr ⟨by rfl, rfl⟩) (fun p hp _ => hSw p hp) ?_
    try go_simp
    refine takeU (i := 22) (v := undef) rfl (by kernel_rfl) (fun _ _ _ h => h) (Or.inr ⟨by rfl, rfl⟩) (fun p hp _ => hSw p hp) ?_
    try go_simp
    refine takeU (i := 23) (v := ?_) rfl (by kernel_rfl) (fun _ _ _ h => h) (Or.inl ⟨by rfl, fun w0 hw0 => ?_⟩) (fun p hp _ => hSw p hp) ?_
    rotate_left
    · simp [Reads] at hw0
      go_simp
      try with_reducible rfl
    try go_simp
    refine takeU (i := 24) (v := ?_) rfl (by kernel_rfl) (fun _ _ _ h => h) (Or.inl ⟨by rfl, fun w0 hw0 => ?_⟩) (fun p hp _ => hSw p hp) ?_
    rotate_left
    · simp [Reads] at hw0
      go_simp
      try with_reducible rfl
    try go_simp
    refine doneU (by kernel_rfl) ?_
    go_wp2_with fail
    go_ret
    exact FIN.out
  subst hb
  refine takeU (i := 12) (v := ?_) rfl (by kernel_rfl) (fun _ _ _ h => h) (Or.inl ⟨by rfl, fun w0 hw0 => ?_⟩) (fun p hp _ => hSw p hp) ?_
  rotate_left
  · simp [Reads] at hw0
    go_simp
    try with_reducible rfl
  try go_simp
  refine takeU (i := 13) (v := ?_) rfl (by kernel_rfl) (fun _ _ _ h => h) (Or.inl ⟨by rfl, fun w0 hw0 => ?_⟩) (fun p hp _ => hSw p hp) ?_
  rotate_left
  · simp [Reads] at hw0
    go_simp
    try with_reducible rfl
  try go_simp
  refine takeU (i := 14) (v := ?_) rfl (by kernel_rfl) (fun _ _ _ h => h) (Or.inl ⟨by rfl, fun w0 hw0 => ?_⟩) (fun p hp _ => hSw p hp) ?_
  rotate_left
  · simp [Reads] at hw0
    go_simp
    try with_reducible rfl
  try go_simp
  refine takeU (i := 15) (v := ?_) rfl (by kernel_rfl) (fun _ _ _ h => h) (Or.inl ⟨by rfl, fun w0 hw0 => ?_⟩) (fun p hp _ => hSw p hp) ?_
  rotate_left
  · simp [Reads] at hw0
    go_simp
    try with_reducible rfl
  try go_simp
  refine takeU (i := 16) (v := ?_) rfl (by kernel_rfl) (fun _ _ _ h => h) (Or.inl ⟨by rfl, fun w0 hw0 => ?_⟩) (fun p hp _ => hSw p hp) ?_
  rotate_left
  · simp [Reads] at hw0
    go_simp
    try with_reducible rfl
  try go_simp
  refine takeU (i := 17) (v := ?_) rfl (by kernel_rfl) (fun _ _ _ h => h) (Or.inl ⟨by rfl, fun w0 hw0 => ?_⟩) (fun p hp _ => hSw p hp) ?_
  rotate_left
  · simp [Reads] at hw0
    go_simp
    try with_reducible rfl
  try go_simp
  refine takeU (i := 18) (v := ?_) rfl (by kernel_rfl) (fun _ _ _ h => h) (Or.inl ⟨by rfl, fun w0 hw0 => ?_⟩) (fun p hp _ => hSw p hp) ?_
  rotate_left
  · simp [Reads] at hw0
    go_simp
    try with_reducible rfl
  try go_simp
  refine takeU (i := 20) (v := ?_) rfl (by kernel_rfl) (fun _ _ _ h => h) (Or.inl ⟨by rfl, fun w0 hw0 => ?_⟩) (fun p hp _ => hSw p hp) ?_
  rotate_left
  · simp [Reads] at hw0
    go_simp
    try with_reducible rfl
  try go_simp
  refine takeU (i := 21) (v := ?_) rfl (by kernel_rfl) (fun _ _ _ h => h) (Or.inl ⟨by rfl, fun w0 hw0 => ?_⟩) (fun p hp _ => hSw p hp) ?_
  rotate_left
  · simp [Reads] at hw0
    go_simp
    try with_reducible rfl
  try go_simp
  clear hSw
  have HEn := Lib.hid (And.intro (wentries ((HW.out.2.2.1.keep0 HK2.out).keep0 HK24.out) hl) HK24.out)
  refine oneU (i := 19) rfl (by kernel_rfl) (fun K hK => ?_)
  rw [if_pos (show Region.wanted _ _ = true from rfl)]
  go_wp2_with fail
  refine HEn.out.1.mono ?_
  rintro e w5 ⟨b5, c5, rfl, hO5, hk5⟩
  try dsimp only
  have hR5 : Re w5 b5 c5 es := sl_of_ownW hO5 (ents_one _)
  have hk25 := HEn.out.2.trans hk5
  have hxr := (((HW.out.2.2.2.keep0 HK2.out).keep0 hk25)).re
  have HM := Lib.hid (And.intro (ents_eqv b5 la c5 lc es xes w5 hR5 hxr) hk25)
  have HK5 := Lib.hid (HK4.out.trans hk5)
  refine hK _ _ (fun q hq _ _ => HR0.out _ hk25 q hq) ?_
  clear hK K hO5 hR5 hk5 hk25 hxr
  try go_simp
  refine oneU (i := 22) rfl (by kernel_rfl) (fun K hK => ?_)
  rw [if_pos (show Region.wanted _ _ = true from rfl)]
  go_wp2_with fail
  refine HM.out.1.mono ?_
  rintro e w6 ⟨q, rfl, hq, hk6⟩
  try dsimp only
  have hk26 := HM.out.2.trans hk6
  have HF := Lib.hid (And.intro (HK5.out.trans hk6) hq)
  refine hK _ _ (fun q hq _ _ => HR0.out _ hk26 q hq) ?_
  clear hK K hk6 hq
  try go_simp
  have hSw := HR0.out _ hk26
  clear hk26
  refine takeU (i := 23) (v := ?_) rfl (by kernel_rfl) (fun _ _ _ h => h) (Or.inl ⟨by rfl, fun w0 hw0 => ?_⟩) (fun p hp _ => hSw p hp) ?_
  rotate_left
  · simp [Reads] at hw0
    go_simp
    try with_reducible rfl
  try go_simp
  refine takeU (i := 24) (v := ?_) rfl (by kernel_rfl) (fun _ _ _ h => h) (Or.inl ⟨by rfl, fun w0 hw0 => ?_⟩) (fun p hp _ => hSw p hp) ?_
  rotate_left
  · simp [Reads] at hw0
    go_simp
    try with_reducible rfl
  try go_simp
  refine doneU (by kernel_rfl) ?_
  go_wp2_with fail
  go_ret
  exact ⟨q, by simp, by rw [HF.out.2]; simp; exact eq_comm, HF.out.1⟩
end
end Go.Proofs.YtfgmbjdeimallaaGreatDoor
/- WalPlays: does, but of entries. -/

namespace Go.Proofs.YtfgmbjdeimallaaGreatDoor
open Go.RowKit Go.Lib

theorem infoSt : ∃ i z, Tryz.prog.info? 57 = some i ∧ i.zero = some z ∧ i.size = 5 ∧ i.bytes = 56 ∧ z.cells.size = 5 := by
  have h : (Tryz.prog.info? 57).map (fun i => (i.size, i.bytes, (i.zero.map fun z => z.cells.size))) = some (5, 56, some 5) := by kernel_rfl
  obtain ⟨i, hi, hx⟩ := Option.map_eq_some_iff.1 h
  simp only [Prod.mk.injEq] at hx
  obtain ⟨z, hz, hc⟩ := Option.map_eq_some_iff.1 hx.2.2
  exact ⟨i, z, hi, hz, hx.1, hx.2.1, hc⟩
/-- states one behind the other, as cells -/
def stps (l : List Stp) : List Value := (l.map fun x => x.cells.toList).flatten
theorem stps_append (a b : List Stp) : stps (a ++ b) = stps a ++ stps b := by simp [stps]
theorem stps_length (l : List Stp) : (stps l).length = l.length * 5 := flat_length _ 5 (fun _ => rfl) l
theorem stps_one (l : List Stp) : ∀ u ∈ stps l, u.oneCell' = true := by
  intro u hu
  obtain ⟨cs, hcs, hu2⟩ := List.mem_flatten.1 hu
  obtain ⟨x, _, rfl⟩ := List.mem_map.1 hcs
  simp at hu2
  rcases hu2 with rfl | rfl | rfl | rfl | rfl <;> rfl
/-- what does leaves -/
def DsPost (w : World) (X : Option Addr) (ls : List Ws) (k : Int) (e : Ending) (w' : World) : Prop :=
  ∃ na nc, ∃ ns : List Stp, e = .returned (.tuple #[.slice na ns.length nc, .int .i64 k]) ∧ ns.map (·.s) = ls ∧ Sl w' 5 na ns.length nc (stps ns) ∧ (∀ y ∈ ns, y.At w' ∧ ∀ b ∈ blks y.la, b ∈ blks X ∨ w.heap.size ≤ b) ∧ Keeps [] w w' ∧ ∀ ad, na = some ad → w.heap.size ≤ ad.block
theorem ds_none {w w' : World} {X : Option Addr} (k : Int) (hk : Keeps [] w w') : DsPost w X [] k (.returned (.tuple #[.slice none 0 0, .int .i64 k])) w' :=
  ⟨none, 0, [], rfl, rfl, Sl.none _ _, by simp, hk, fun _ h => by cases h⟩
theorem ds_one {w w' : World} {X : Option Addr} (x : Stp) (hX : ∀ b ∈ blks x.la, b ∈ blks X) (hk : Keeps [] w w') (hA : x.At w') : DsPost w X [x.s] 0 (.returned (.tuple #[.slice (some ⟨w'.heap.size, 0, none⟩) 1 1, .int .i64 0])) (w'.alloc (.cells x.cells 57)) := by
  have hka := (Keeps.refl [] w').alloc (.cells x.cells 57)
  have hS := Sl.of_blk (n := 1) (sz := 5) (Blk.fresh w' 57 x.cells) rfl (by decide) (by
    have := stps_one [x]
    simpa [stps] using this)
  refine ⟨_, 1, [x], rfl, rfl, ?_, fun y hy => ?_, hk.trans hka, fun ad he => ?_⟩
  · have e : stps [x] = x.cells.toList := by simp [stps]
    rw [e]
    exact hS
  · simp at hy
    subst hy
    exact ⟨hA.keep0 hka, fun b hb => .inl (hX b hb)⟩
  · cases he
    exact hk.size

set_option maxRecDepth 100000 in
set_option maxHeartbeats 4000000 in
theorem sdoes_hard_bad (x : Stp) (y : Wp) (w : World) (hv : y.vote < -1 ∨ 1000 < y.vote) :
    Calls Tryz.prog 21 #[.agg #[.int .u64 (x.s.term : Nat), .int .i64 x.s.vote, .int .u64 (x.s.base : Nat), .int .u64 (x.s.bt : Nat), .slice x.la x.s.es.length x.lc], .agg #[.int .i64 0, .int .i64 y.n, .int .u64 (y.ix : Nat), .int .u64 (y.tm : Nat), .int .i64 y.vote, .slice y.la y.l.length y.lc, .slice y.ka y.keep.length y.kc]] w (DsPost w x.la [] 20) := by
  have hX0 := Blk.fresh w 57 #[.int .u64 (x.s.term : Nat), .int .i64 x.s.vote, .int .u64 (x.s.base : Nat), .int .u64 (x.s.bt : Nat), .slice x.la x.s.es.length x.lc]
  have hk0 := (Keeps.refl [] w).alloc (.cells #[.int .u64 (x.s.term : Nat), .int .i64 x.s.vote, .int .u64 (x.s.base : Nat), .int .u64 (x.s.bt : Nat), .slice x.la x.s.es.length x.lc] 57)
  have hX1 := hX0.alloc (.cells #[.int .i64 0, .int .i64 y.n, .int .u64 (y.ix : Nat), .int .u64 (y.tm : Nat), .int .i64 y.vote, .slice y.la y.l.length y.lc, .slice y.ka y.keep.length y.kc] 33)
  have hY1 := Blk.fresh (w.alloc (.cells #[.int .u64 (x.s.term : Nat), .int .i64 x.s.vote, .int .u64 (x.s.base : Nat), .int .u64 (x.s.bt : Nat), .slice x.la x.s.es.length x.lc] 57)) 33 #[.int .i64 0, .int .i64 y.n, .int .u64 (y.ix : Nat), .int .u64 (y.tm : Nat), .int .i64 y.vote, .slice y.la y.l.length y.lc, .slice y.ka y.keep.length y.kc]
  have hk1 := hk0.alloc (.cells #[.int .i64 0, .int .i64 y.n, .int .u64 (y.ix : Nat), .int .u64 (y.tm : Nat), .int .i64 y.vote, .slice y.la y.l.length y.lc, .slice y.ka y.keep.length y.kc] 33)
  obtain ⟨sb, hsb⟩ : ∃ sb, sb = w.heap.size := ⟨_, rfl⟩
  obtain ⟨yb, hyb⟩ : ∃ yb, yb = w.heap.size + 1 := ⟨_, rfl⟩
  rw [← hsb] at hX1
  rw [show (w.alloc (.cells #[.int .u64 (x.s.term : Nat), .int .i64 x.s.vote, .int .u64 (x.s.base : Nat), .int .u64 (x.s.bt : Nat), .slice x.la x.s.es.length x.lc] 57)).heap.size = w.heap.size + 1 by simp, ← hyb] at hY1
  have hss : w.heap.size ≤ sb ∧ w.heap.size ≤ yb ∧ sb ≠ yb := by omega
  have H0 := Lib.hid (And.intro hX1 (And.intro hY1 (And.intro hk1 hss)))
  clear hX0 hk0 hX1 hY1 hk1 hss
  go_enter Tryz.func21, Tryz.ntmps21
  go_upto_region 1 with (fail)
  rw [← hyb, ← hsb]
  clear hsb hyb
  generalize World.alloc (World.alloc w _) _ = w1 at *
  have hcS := H0.out.1.cell
  have hcY := H0.out.2.1.cell
  rcases hv with hv | hv
  · go_wp2_with fail
    go_ret2
    exact ds_none 20 H0.out.2.2.1
  · have hv2 : ¬ (y.vote < -1) := by omega
    go_wp2_with fail
    go_ret2
    exact ds_none 20 H0.out.2.2.1

set_option maxRecDepth 100000 in
set_option maxHeartbeats 4000000 in
theorem sdoes_hard (x : Stp) (y : Wp) (w : World) (hA : x.At w) (hv : -1 ≤ y.vote ∧ y.vote ≤ 1000) :
    Calls Tryz.prog 21 #[.agg #[.int .u64 (x.s.term : Nat), .int .i64 x.s.vote, .int .u64 (x.s.base : Nat), .int .u64 (x.s.bt : Nat), .slice x.la x.s.es.length x.lc], .agg #[.int .i64 0, .int .i64 y.n, .int .u64 (y.ix : Nat), .int .u64 (y.tm : Nat), .int .i64 y.vote, .slice y.la y.l.length y.lc, .slice y.ka y.keep.length y.kc]] w (DsPost w x.la [x.s.ev (.hard y.tm y.vote)] 0) := by
  obtain ⟨i, z, hi, hz, hsz, -, -⟩ := infoSt
  have HA := Lib.hid hA
  clear hA
  have hX0 := Blk.fresh w 57 #[.int .u64 (x.s.term : Nat), .int .i64 x.s.vote, .int .u64 (x.s.base : Nat), .int .u64 (x.s.bt : Nat), .slice x.la x.s.es.length x.lc]
  have hk0 := (Keeps.refl [] w).alloc (.cells #[.int .u64 (x.s.term : Nat), .int .i64 x.s.vote, .int .u64 (x.s.base : Nat), .int .u64 (x.s.bt : Nat), .slice x.la x.s.es.length x.lc] 57)
  have hX1 := hX0.alloc (.cells #[.int .i64 0, .int .i64 y.n, .int .u64 (y.ix : Nat), .int .u64 (y.tm : Nat), .int .i64 y.vote, .slice y.la y.l.length y.lc, .slice y.ka y.keep.length y.kc] 33)
  have hY1 := Blk.fresh (w.alloc (.cells #[.int .u64 (x.s.term : Nat), .int .i64 x.s.vote, .int .u64 (x.s.base : Nat), .int .u64 (x.s.bt : Nat), .slice x.la x.s.es.length x.lc] 57)) 33 #[.int .i64 0, .int .i64 y.n, .int .u64 (y.ix : Nat), .int .u64 (y.tm : Nat), .int .i64 y.vote, .slice y.la y.l.length y.lc, .slice y.ka y.keep.length y.kc]
  have hk1 := hk0.alloc (.cells #[.int .i64 0, .int .i64 y.n, .int .u64 (y.ix : Nat), .int .u64 (y.tm : Nat), .int .i64 y.vote, .slice y.la y.l.length y.lc, .slice y.ka y.keep.length y.kc] 33)
  obtain ⟨sb, hsb⟩ : ∃ sb, sb = w.heap.size := ⟨_, rfl⟩
  obtain ⟨yb, hyb⟩ : ∃ yb, yb = w.heap.size + 1 := ⟨_, rfl⟩
  rw [← hsb] at hX1
  rw [show (w.alloc (.cells #[.int .u64 (x.s.term : Nat), .int .i64 x.s.vote, .int .u64 (x.s.base : Nat), .int .u64 (x.s.bt : Nat), .slice x.la x.s.es.length x.lc] 57)).heap.size = w.heap.size + 1 by simp, ← hyb] at hY1
  have hss : w.heap.size ≤ sb ∧ w.heap.size ≤ yb ∧ sb ≠ yb := by omega
  have H0 := Lib.hid (And.intro hX1 (And.intro hY1 (And.intro hk1 hss)))
  clear hX0 hk0 hX1 hY1 hk1 hss
  go_enter Tryz.func21, Tryz.ntmps21
  go_upto_region 1 with (fail)
  rw [← hyb, ← hsb]
  clear hsb hyb
  generalize World.alloc (World.alloc w _) _ = w1 at *
  have hcS := H0.out.1.cell
  have hcY := H0.out.2.1.cell
  have n1 : ¬ (y.vote < -1) := by omega
  have n2 : ¬ (1000 < y.vote) := by omega
  clear hv
  go_upto_region 6 with (refine wpList_store_agg rfl rfl 25 _ _ rfl sb 0 rfl [.int .u64 (y.tm : Nat), .int .i64 y.vote] rfl 57 _ H0.out.1 Tryz.sizeHard (by simp) rfl _ rfl ?_; intro w2 hM hk2)
  have hk02 : Keeps [] w w2 := H0.out.2.2.1.step hk2 (fun b hb => .inr (by simp at hb; subst hb; exact H0.out.2.2.2.1))
  have HZ := Lib.hid (And.intro hM (And.intro hk02 (show Stp.At w2 ⟨x.s.ev (.hard y.tm y.vote), x.la, x.lc⟩ from HA.out.keep0 hk02)))
  clear hM hk2 hk02 hcS hcY
  go_wp2_with (first
    | (refine wpList_load_agg rfl _ _ rfl sb 0 5 rfl 57 _ _ HZ.out.1 Tryz.underlying57 rfl Tryz.sizeSt (by simp) _ rfl ?_)
    | (refine wpList_slice1 rfl 58 57 _ rfl i z (.agg (Stp.cells ⟨x.s.ev (.hard y.tm y.vote), x.la, x.lc⟩)) 5 Tryz.underlying58 hi hz hsz rfl rfl (by omega) (by omega) ?_))
  go_ret2
  exact ds_one ⟨x.s.ev (.hard y.tm y.vote), x.la, x.lc⟩ (fun _ h => h) HZ.out.2.1 HZ.out.2.2
end Go.Proofs.YtfgmbjdeimallaaGreatDoor
/- WalPlays: does: entries cut and dropped. -/

namespace Go.Proofs.YtfgmbjdeimallaaGreatDoor
open Go.RowKit Go.Lib

set_option maxRecDepth 100000 in
set_option maxHeartbeats 8000000 in
theorem sdoes_cut_bad (x : Stp) (y : Wp) (w : World) (hb : x.s.base ≤ 4611686018427387904) (hl : x.s.es.length ≤ 1000000) (hv : y.ix ≤ x.s.base ∨ x.s.last + 1 < y.ix) :
    Calls Tryz.prog 21 #[.agg #[.int .u64 (x.s.term : Nat), .int .i64 x.s.vote, .int .u64 (x.s.base : Nat), .int .u64 (x.s.bt : Nat), .slice x.la x.s.es.length x.lc], .agg #[.int .i64 4, .int .i64 y.n, .int .u64 (y.ix : Nat), .int .u64 (y.tm : Nat), .int .i64 y.vote, .slice y.la y.l.length y.lc, .slice y.ka y.keep.length y.kc]] w (DsPost w x.la [] 40) := by
  have HB := Lib.hid (And.intro hb (show x.s.es.length ≤ 4611686018427387904 by omega))
  have hX0 := Blk.fresh w 57 #[.int .u64 (x.s.term : Nat), .int .i64 x.s.vote, .int .u64 (x.s.base : Nat), .int .u64 (x.s.bt : Nat), .slice x.la x.s.es.length x.lc]
  have hk0 := (Keeps.refl [] w).alloc (.cells #[.int .u64 (x.s.term : Nat), .int .i64 x.s.vote, .int .u64 (x.s.base : Nat), .int .u64 (x.s.bt : Nat), .slice x.la x.s.es.length x.lc] 57)
  have hX1 := hX0.alloc (.cells #[.int .i64 4, .int .i64 y.n, .int .u64 (y.ix : Nat), .int .u64 (y.tm : Nat), .int .i64 y.vote, .slice y.la y.l.length y.lc, .slice y.ka y.keep.length y.kc] 33)
  have hY1 := Blk.fresh (w.alloc (.cells #[.int .u64 (x.s.term : Nat), .int .i64 x.s.vote, .int .u64 (x.s.base : Nat), .int .u64 (x.s.bt : Nat), .slice x.la x.s.es.length x.lc] 57)) 33 #[.int .i64 4, .int .i64 y.n, .int .u64 (y.ix : Nat), .int .u64 (y.tm : Nat), .int .i64 y.vote, .slice y.la y.l.length y.lc, .slice y.ka y.keep.length y.kc]
  have hk1 := hk0.alloc (.cells #[.int .i64 4, .int .i64 y.n, .int .u64 (y.ix : Nat), .int .u64 (y.tm : Nat), .int .i64 y.vote, .slice y.la y.l.length y.lc, .slice y.ka y.keep.length y.kc] 33)
  obtain ⟨sb, hsb⟩ : ∃ sb, sb = w.heap.size := ⟨_, rfl⟩
  obtain ⟨yb, hyb⟩ : ∃ yb, yb = w.heap.size + 1 := ⟨_, rfl⟩
  rw [← hsb] at hX1
  rw [show (w.alloc (.cells #[.int .u64 (x.s.term : Nat), .int .i64 x.s.vote, .int .u64 (x.s.base : Nat), .int .u64 (x.s.bt : Nat), .slice x.la x.s.es.length x.lc] 57)).heap.size = w.heap.size + 1 by simp, ← hyb] at hY1
  have hss : w.heap.size ≤ sb ∧ w.heap.size ≤ yb ∧ sb ≠ yb := by omega
  have H0 := Lib.hid (And.intro hX1 (And.intro hY1 (And.intro hk1 hss)))
  clear hX0 hk0 hX1 hY1 hk1 hss
  go_enter Tryz.func21, Tryz.ntmps21
  go_upto_region 1 with (fail)
  rw [← hyb, ← hsb]
  clear hsb hyb
  generalize World.alloc (World.alloc w _) _ = w1 at *
  have hcS := H0.out.1.cell
  have hcY := H0.out.2.1.cell
  go_upto_region 21 with (fail)
  clear hcS hcY
  have hR0 : ∀ W : World, Keeps [] w1 W → ∀ q ∈ [((1 : Nat), fun w0 : World => w0.cell? ⟨yb, 2, none⟩ = some (.int .u64 (y.ix : Nat))), ((3 : Nat), fun w0 : World => w0.cell? ⟨sb, 2, none⟩ = some (.int .u64 (x.s.base : Nat))), ((7 : Nat), fun w0 : World => w0.cell? ⟨yb, 2, none⟩ = some (.int .u64 (y.ix : Nat))), ((8 : Nat), fun w0 : World => Blk w0 sb 57 #[.int .u64 (x.s.term : Nat), .int .i64 x.s.vote, .int .u64 (x.s.base : Nat), .int .u64 (x.s.bt : Nat), .slice x.la x.s.es.length x.lc])], q.2 W := fun W hW q hq => by
    have hS := H0.out.1.keep hW (by simp)
    have hY := H0.out.2.1.keep hW (by simp)
    simp only [List.mem_cons, List.not_mem_nil, or_false] at hq
    rcases hq with rfl | rfl | rfl | rfl
    · exact hY.cell 2
    · exact hS.cell 2
    · exact hY.cell 2
    · exact hS
  have HR0 := Lib.hid hR0
  have hkd := (Keeps.refl [] w1).drew
  have hSw := HR0.out _ hkd
  clear hR0
  refine startU [((1 : Nat), fun w0 : World => w0.cell? ⟨yb, 2, none⟩ = some (.int .u64 (y.ix : Nat))), ((3 : Nat), fun w0 : World => w0.cell? ⟨sb, 2, none⟩ = some (.int .u64 (x.s.base : Nat))), ((7 : Nat), fun w0 : World => w0.cell? ⟨yb, 2, none⟩ = some (.int .u64 (y.ix : Nat))), ((8 : Nat), fun w0 : World => Blk w0 sb 57 #[.int .u64 (x.s.term : Nat), .int .i64 x.s.vote, .int .u64 (x.s.base : Nat), .int .u64 (x.s.bt : Nat), .slice x.la x.s.es.length x.lc])] (by kernel_rfl) ?_
  generalize World.drew w1 = w2 at *
  by_cases hlo : y.ix ≤ x.s.base
  · have n1 : (y.ix : Int) ≤ (x.s.base : Int) := by omega
    have HF := Lib.hid (H0.out.2.2.1.trans hkd)
    refine takeU (i := 0) (v := ?_) rfl (by kernel_rfl) (fun _ _ _ h => h) (Or.inl ⟨by rfl, fun w0 hw0 => ?_⟩) (fun p hp _ => hSw p hp) ?_
    rotate_left
    · simp [Reads] at hw0
      go_simp
      try with_reducible rfl
    try go_simp
    refine takeU (i := 1) (v := ?_) rfl (by kernel_rfl) (fun _ _ _ h => h) (Or.inl ⟨by rfl, fun w0 hw0 => ?_⟩) (fun p hp _ => hSw p hp) ?_
    rotate_left
    · simp [Reads] at hw0
      go_simp
      try with_reducible rfl
    try go_simp
    refine takeU (i := 2) (v := ?_) rfl (by kernel_rfl) (fun _ _ _ h => h) (Or.inl ⟨by rfl, fun w0 hw0 => ?_⟩) (fun p hp _ => hSw p hp) ?_
    rotate_left
    · simp [Reads] at hw0
      go_simp
      try with_reducible rfl
    try go_simp
    refine takeU (i := 3) (v := ?_) rfl (by kernel_rfl) (fun _ _ _ h => h) (Or.inl ⟨by rfl, fun w0 hw0 => ?_⟩) (fun p hp _ => hSw p hp) ?_
    rotate_left
    · simp [Reads] at hw0
      go_simp
      try with_reducible rfl
    try go_simp
    refine takeU (i := 4) (v := ?_) rfl (by kernel_rfl) (fun _ _ _ h => h) (Or.inl ⟨by rfl, fun w0 hw0 => ?_⟩) (fun p hp _ => hSw p hp) ?_
    rotate_left
    · simp [Reads] at hw0
      go_simp
      try with_reducible rfl
    try go_simp
    refine takeU (i := 5) (v := ?_) rfl (by kernel_rfl) (fun _ _ _ h => h) (Or.inl ⟨by rfl, fun w0 hw0 => ?_⟩) (fun p hp _ => hSw p hp) ?_
    rotate_left
    · simp [Reads] at hw0
      go_simp
      try with_reducible rfl
    try go_simp
    refine takeU (i := 6) (v := undef) rfl (by kernel_rfl) (fun _ _ _ h => h) (Or.inr ⟨by rfl, rfl⟩) (fun p hp _ => hSw p hp) ?_
    try go_simp
    refine takeU (i := 7) (v := undef) rfl (by kernel_rfl) (fun _ _ _ h => h) (Or.inr ⟨by rfl, rfl⟩) (fun p hp _ => hSw p hp) ?_
    try go_simp
    refine takeU (i := 8) (v := undef) rfl (by kernel_rfl) (fun _ _ _ h => h) (Or.inr ⟨by rfl, rfl⟩) (fun p hp _ => hSw p hp) ?_
    try go_simp
    refine takeU (i := 9) (v := undef) rfl (by kernel_rfl) (fun _ _ _ h => h) (Or.inr ⟨by rfl, rfl⟩) (fun p hp _ => hSw p hp) ?_
    try go_simp
    refine takeU (i := 10) (v := undef) rfl (by kernel_rfl) (fun _ _ _ h => h) (Or.inr ⟨by rfl, rfl⟩) (fun p hp _ => hSw p hp) ?_
    try go_simp
    refine takeU (i := 11) (v := undef) rfl (by kernel_rfl) (fun _ _ _ h => h) (Or.inr ⟨by rfl, rfl⟩) (fun p hp _ => hSw p hp) ?_
    try go_simp
    refine takeU (i := 12) (v := ?_) rfl (by kernel_rfl) (fun _ _ _ h => h) (Or.inl ⟨by rfl, fun w0 hw0 => ?_⟩) (fun p hp _ => hSw p hp) ?_
    rotate_left
    · simp [Reads] at hw0
      go_simp
      try with_reducible rfl
    try go_simp
    refine doneU (by kernel_rfl) ?_
    clear hkd hSw hv
    go_wp2_with fail
    go_ret2
    exact ds_none 40 HF.out
  have n1 : ¬ ((y.ix : Int) ≤ (x.s.base : Int)) := by omega
  have n2 : (x.s.last : Int) + 1 < (y.ix : Int) := by omega
  obtain ⟨m, hm⟩ : ∃ m, m = x.s.last := ⟨_, rfl⟩
  have q1 : IntKind.u64.wrap ((m : Int) + 1) = (m : Int) + 1 := IntWalk.u64_in _ (by rw [hm]; unfold Ws.last; omega)
  refine takeU (i := 0) (v := ?_) rfl (by kernel_rfl) (fun _ _ _ h => h) (Or.inl ⟨by rfl, fun w0 hw0 => ?_⟩) (fun p hp _ => hSw p hp) ?_
  rotate_left
  · simp [Reads] at hw0
    go_simp
    try with_reducible rfl
  try go_simp
  refine takeU (i := 1) (v := ?_) rfl (by kernel_rfl) (fun _ _ _ h => h) (Or.inl ⟨by rfl, fun w0 hw0 => ?_⟩) (fun p hp _ => hSw p hp) ?_
  rotate_left
  · simp [Reads] at hw0
    go_simp
    try with_reducible rfl
  try go_simp
  refine takeU (i := 2) (v := ?_) rfl (by kernel_rfl) (fun _ _ _ h => h) (Or.inl ⟨by rfl, fun w0 hw0 => ?_⟩) (fun p hp _ => hSw p hp) ?_
  rotate_left
  · simp [Reads] at hw0
    go_simp
    try with_reducible rfl
  try go_simp
  refine takeU (i := 3) (v := ?_) rfl (by kernel_rfl) (fun _ _ _ h => h) (Or.inl ⟨by rfl, fun w0 hw0 => ?_⟩) (fun p hp _ => hSw p hp) ?_
  rotate_left
  · simp [Reads] at hw0
    go_simp
    try with_reducible rfl
  try go_simp
  refine takeU (i := 4) (v := ?_) rfl (by kernel_rfl) (fun _ _ _ h => h) (Or.inl ⟨by rfl, fun w0 hw0 => ?_⟩) (fun p hp _ => hSw p hp) ?_
  rotate_left
  · simp [Reads] at hw0
    go_simp
    try with_reducible rfl
  try go_simp
  refine takeU (i := 5) (v := ?_) rfl (by kernel_rfl) (fun _ _ _ h => h) (Or.inl ⟨by rfl, fun w0 hw0 => ?_⟩) (fun p hp _ => hSw p hp) ?_
  rotate_left
  · simp [Reads] at hw0
    go_simp
    try with_reducible rfl
  try go_simp
  refine takeU (i := 6) (v := ?_) rfl (by kernel_rfl) (fun _ _ _ h => h) (Or.inl ⟨by rfl, fun w0 hw0 => ?_⟩) (fun p hp _ => hSw p hp) ?_
  rotate_left
  · simp [Reads] at hw0
    go_simp
    try with_reducible rfl
  try go_simp
  refine takeU (i := 7) (v := ?_) rfl (by kernel_rfl) (fun _ _ _ h => h) (Or.inl ⟨by rfl, fun w0 hw0 => ?_⟩) (fun p hp _ => hSw p hp) ?_
  rotate_left
  · simp [Reads] at hw0
    go_simp
    try with_reducible rfl
  try go_simp
  refine takeU (i := 8) (v := .agg #[.int .u64 (x.s.term : Nat), .int .i64 x.s.vote, .int .u64 (x.s.base : Nat), .int .u64 (x.s.bt : Nat), .slice x.la x.s.es.length x.lc]) rfl (by kernel_rfl) (fun _ _ _ h => h) (Or.inl ⟨by rfl, fun w0 hw0 => ?_⟩) (fun p hp _ => hSw p hp) ?_
  · simp [Reads] at hw0
    exact load_yieldsW 57 (.tmp 2) rfl sb 0 5 rfl 57 _ _ hw0 Tryz.underlying57 rfl Tryz.sizeSt (by simp) _ rfl
  try go_simp
  clear hSw
  have HL := Lib.hid (And.intro (slast x w2 HB.out.1 HB.out.2) hkd)
  clear hkd
  refine oneU (i := 9) rfl (by kernel_rfl) (fun K hK => ?_)
  rw [if_pos (show Region.wanted _ _ = true from rfl)]
  go_wp2_with fail
  refine HL.out.1.mono ?_
  rintro e w3 ⟨rfl, hk3⟩
  rw [← hm]
  rw [← hm] at n2
  clear hm
  try dsimp only
  have hk13 := HL.out.2.trans hk3
  refine hK _ _ (fun q hq _ _ => HR0.out _ hk13 q hq) ?_
  clear hK K hk3
  try go_simp
  have hSw := HR0.out _ hk13
  have HK13 := Lib.hid hk13
  clear hk13
  refine takeU (i := 10) (v := ?_) rfl (by kernel_rfl) (fun _ _ _ h => h) (Or.inl ⟨by rfl, fun w0 hw0 => ?_⟩) (fun p hp _ => hSw p hp) ?_
  rotate_left
  · simp [Reads] at hw0
    go_simp
    try with_reducible rfl
  try go_simp
  refine takeU (i := 11) (v := ?_) rfl (by kernel_rfl) (fun _ _ _ h => h) (Or.inl ⟨by rfl, fun w0 hw0 => ?_⟩) (fun p hp _ => hSw p hp) ?_
  rotate_left
  · simp [Reads] at hw0
    go_simp
    try with_reducible rfl
  try go_simp
  refine takeU (i := 12) (v := ?_) rfl (by kernel_rfl) (fun _ _ _ h => h) (Or.inl ⟨by rfl, fun w0 hw0 => ?_⟩) (fun p hp _ => hSw p hp) ?_
  rotate_left
  · simp [Reads] at hw0
    go_simp
    try with_reducible rfl
  try go_simp
  refine doneU (by kernel_rfl) ?_
  clear hSw hv
  have HF := Lib.hid (H0.out.2.2.1.trans HK13.out)
  go_wp2_with fail
  go_ret2
  exact ds_none 40 HF.out

set_option maxRecDepth 100000 in
set_option maxHeartbeats 8000000 in
theorem sdoes_cut (x : Stp) (y : Wp) (w : World) (hA : x.At w) (hb : x.s.base ≤ 4611686018427387904) (hl : x.s.es.length ≤ 1000000) (hv : x.s.base < y.ix ∧ y.ix ≤ x.s.last + 1) :
    Calls Tryz.prog 21 #[.agg #[.int .u64 (x.s.term : Nat), .int .i64 x.s.vote, .int .u64 (x.s.base : Nat), .int .u64 (x.s.bt : Nat), .slice x.la x.s.es.length x.lc], .agg #[.int .i64 4, .int .i64 y.n, .int .u64 (y.ix : Nat), .int .u64 (y.tm : Nat), .int .i64 y.vote, .slice y.la y.l.length y.lc, .slice y.ka y.keep.length y.kc]] w (DsPost w x.la [x.s.ev (.cut y.ix)] 0) := by
  obtain ⟨i, z, hi, hz, hsz, -, -⟩ := infoSt
  have HB := Lib.hid (And.intro hb (show x.s.es.length ≤ 4611686018427387904 by omega))
  have HA := Lib.hid hA
  clear hA
  have hX0 := Blk.fresh w 57 #[.int .u64 (x.s.term : Nat), .int .i64 x.s.vote, .int .u64 (x.s.base : Nat), .int .u64 (x.s.bt : Nat), .slice x.la x.s.es.length x.lc]
  have hk0 := (Keeps.refl [] w).alloc (.cells #[.int .u64 (x.s.term : Nat), .int .i64 x.s.vote, .int .u64 (x.s.base : Nat), .int .u64 (x.s.bt : Nat), .slice x.la x.s.es.length x.lc] 57)
  have hX1 := hX0.alloc (.cells #[.int .i64 4, .int .i64 y.n, .int .u64 (y.ix : Nat), .int .u64 (y.tm : Nat), .int .i64 y.vote, .slice y.la y.l.length y.lc, .slice y.ka y.keep.length y.kc] 33)
  have hY1 := Blk.fresh (w.alloc (.cells #[.int .u64 (x.s.term : Nat), .int .i64 x.s.vote, .int .u64 (x.s.base : Nat), .int .u64 (x.s.bt : Nat), .slice x.la x.s.es.length x.lc] 57)) 33 #[.int .i64 4, .int .i64 y.n, .int .u64 (y.ix : Nat), .int .u64 (y.tm : Nat), .int .i64 y.vote, .slice y.la y.l.length y.lc, .slice y.ka y.keep.length y.kc]
  have hk1 := hk0.alloc (.cells #[.int .i64 4, .int .i64 y.n, .int .u64 (y.ix : Nat), .int .u64 (y.tm : Nat), .int .i64 y.vote, .slice y.la y.l.length y.lc, .slice y.ka y.keep.length y.kc] 33)
  obtain ⟨sb, hsb⟩ : ∃ sb, sb = w.heap.size := ⟨_, rfl⟩
  obtain ⟨yb, hyb⟩ : ∃ yb, yb = w.heap.size + 1 := ⟨_, rfl⟩
  rw [← hsb] at hX1
  rw [show (w.alloc (.cells #[.int .u64 (x.s.term : Nat), .int .i64 x.s.vote, .int .u64 (x.s.base : Nat), .int .u64 (x.s.bt : Nat), .slice x.la x.s.es.length x.lc] 57)).heap.size = w.heap.size + 1 by simp, ← hyb] at hY1
  have hss : w.heap.size ≤ sb ∧ w.heap.size ≤ yb ∧ sb ≠ yb := by omega
  have H0 := Lib.hid (And.intro hX1 (And.intro hY1 (And.intro hk1 hss)))
  clear hX0 hk0 hX1 hY1 hk1 hss
  go_enter Tryz.func21, Tryz.ntmps21
  go_upto_region 1 with (fail)
  rw [← hyb, ← hsb]
  clear hsb hyb
  generalize World.alloc (World.alloc w _) _ = w1 at *
  have hcS := H0.out.1.cell
  have hcY := H0.out.2.1.cell
  go_upto_region 21 with (fail)
  clear hcS hcY
  have hR0 : ∀ W : World, Keeps [] w1 W → ∀ q ∈ [((1 : Nat), fun w0 : World => w0.cell? ⟨yb, 2, none⟩ = some (.int .u64 (y.ix : Nat))), ((3 : Nat), fun w0 : World => w0.cell? ⟨sb, 2, none⟩ = some (.int .u64 (x.s.base : Nat))), ((7 : Nat), fun w0 : World => w0.cell? ⟨yb, 2, none⟩ = some (.int .u64 (y.ix : Nat))), ((8 : Nat), fun w0 : World => Blk w0 sb 57 #[.int .u64 (x.s.term : Nat), .int .i64 x.s.vote, .int .u64 (x.s.base : Nat), .int .u64 (x.s.bt : Nat), .slice x.la x.s.es.length x.lc])], q.2 W := fun W hW q hq => by
    have hS := H0.out.1.keep hW (by simp)
    have hY := H0.out.2.1.keep hW (by simp)
    simp only [List.mem_cons, List.not_mem_nil, or_false] at hq
    rcases hq with rfl | rfl | rfl | rfl
    · exact hY.cell 2
    · exact hS.cell 2
    · exact hY.cell 2
    · exact hS
  have HR0 := Lib.hid hR0
  have hkd := (Keeps.refl [] w1).drew
  have hSw := HR0.out _ hkd
  clear hR0
  refine startU [((1 : Nat), fun w0 : World => w0.cell? ⟨yb, 2, none⟩ = some (.int .u64 (y.ix : Nat))), ((3 : Nat), fun w0 : World => w0.cell? ⟨sb, 2, none⟩ = some (.int .u64 (x.s.base : Nat))), ((7 : Nat), fun w0 : World => w0.cell? ⟨yb, 2, none⟩ = some (.int .u64 (y.ix : Nat))), ((8 : Nat), fun w0 : World => Blk w0 sb 57 #[.int .u64 (x.s.term : Nat), .int .i64 x.s.vote, .int .u64 (x.s.base : Nat), .int .u64 (x.s.bt : Nat), .slice x.la x.s.es.length x.lc])] (by kernel_rfl) ?_
  generalize World.drew w1 = w2 at *
  have n1 : ¬ ((y.ix : Int) ≤ (x.s.base : Int)) := by omega
  have n2 : ¬ ((x.s.last : Int) + 1 < (y.ix : Int)) := by omega
  obtain ⟨m, hm⟩ : ∃ m, m = x.s.last := ⟨_, rfl⟩
  have hm2 : m = x.s.base + x.s.es.length := hm
  have q1 : IntKind.u64.wrap ((m : Int) + 1) = (m : Int) + 1 := IntWalk.u64_in _ (by omega)
  have HM2 := Lib.hid hm2
  clear hm2
  refine takeU (i := 0) (v := ?_) rfl (by kernel_rfl) (fun _ _ _ h => h) (Or.inl ⟨by rfl, fun w0 hw0 => ?_⟩) (fun p hp _ => hSw p hp) ?_
  rotate_left
  · simp [Reads] at hw0
    go_simp
    try with_reducible rfl
  try go_simp
  refine takeU (i := 1) (v := ?_) rfl (by kernel_rfl) (fun _ _ _ h => h) (Or.inl ⟨by rfl, fun w0 hw0 => ?_⟩) (fun p hp _ => hSw p hp) ?_
  rotate_left
  · simp [Reads] at hw0
    go_simp
    try with_reducible rfl
  try go_simp
  refine takeU (i := 2) (v := ?_) rfl (by kernel_rfl) (fun _ _ _ h => h) (Or.inl ⟨by rfl, fun w0 hw0 => ?_⟩) (fun p hp _ => hSw p hp) ?_
  rotate_left
  · simp [Reads] at hw0
    go_simp
    try with_reducible rfl
  try go_simp
  refine takeU (i := 3) (v := ?_) rfl (by kernel_rfl) (fun _ _ _ h => h) (Or.inl ⟨by rfl, fun w0 hw0 => ?_⟩) (fun p hp _ => hSw p hp) ?_
  rotate_left
  · simp [Reads] at hw0
    go_simp
    try with_reducible rfl
  try go_simp
  refine takeU (i := 4) (v := ?_) rfl (by kernel_rfl) (fun _ _ _ h => h) (Or.inl ⟨by rfl, fun w0 hw0 => ?_⟩) (fun p hp _ => hSw p hp) ?_
  rotate_left
  · simp [Reads] at hw0
    go_simp
    try with_reducible rfl
  try go_simp
  refine takeU (i := 5) (v := ?_) rfl (by kernel_rfl) (fun _ _ _ h => h) (Or.inl ⟨by rfl, fun w0 hw0 => ?_⟩) (fun p hp _ => hSw p hp) ?_
  rotate_left
  · simp [Reads] at hw0
    go_simp
    try with_reducible rfl
  try go_simp
  refine takeU (i := 6) (v := ?_) rfl (by kernel_rfl) (fun _ _ _ h => h) (Or.inl ⟨by rfl, fun w0 hw0 => ?_⟩) (fun p hp _ => hSw p hp) ?_
  rotate_left
  · simp [Reads] at hw0
    go_simp
    try with_reducible rfl
  try go_simp
  refine takeU (i := 7) (v := ?_) rfl (by kernel_rfl) (fun _ _ _ h => h) (Or.inl ⟨by rfl, fun w0 hw0 => ?_⟩) (fun p hp _ => hSw p hp) ?_
  rotate_left
  · simp [Reads] at hw0
    go_simp
    try with_reducible rfl
  try go_simp
  refine takeU (i := 8) (v := .agg #[.int .u64 (x.s.term : Nat), .int .i64 x.s.vote, .int .u64 (x.s.base : Nat), .int .u64 (x.s.bt : Nat), .slice x.la x.s.es.length x.lc]) rfl (by kernel_rfl) (fun _ _ _ h => h) (Or.inl ⟨by rfl, fun w0 hw0 => ?_⟩) (fun p hp _ => hSw p hp) ?_
  · simp [Reads] at hw0
    exact load_yieldsW 57 (.tmp 2) rfl sb 0 5 rfl 57 _ _ hw0 Tryz.underlying57 rfl Tryz.sizeSt (by simp) _ rfl
  try go_simp
  clear hSw
  have HL := Lib.hid (And.intro (slast x w2 HB.out.1 HB.out.2) hkd)
  clear hkd
  refine oneU (i := 9) rfl (by kernel_rfl) (fun K hK => ?_)
  rw [if_pos (show Region.wanted _ _ = true from rfl)]
  go_wp2_with fail
  refine HL.out.1.mono ?_
  rintro e w3 ⟨rfl, hk3⟩
  rw [← hm]
  rw [← hm] at n2 hv
  clear hm
  have n3 : ¬ (m + 1 < y.ix) := by omega
  try dsimp only
  have hk13 := HL.out.2.trans hk3
  refine hK _ _ (fun q hq _ _ => HR0.out _ hk13 q hq) ?_
  clear hK K hk3
  try go_simp
  have hSw := HR0.out _ hk13
  have HK13 := Lib.hid hk13
  clear hk13
  refine takeU (i := 10) (v := ?_) rfl (by kernel_rfl) (fun _ _ _ h => h) (Or.inl ⟨by rfl, fun w0 hw0 => ?_⟩) (fun p hp _ => hSw p hp) ?_
  rotate_left
  · simp [Reads] at hw0
    go_simp
    try with_reducible rfl
  try go_simp
  refine takeU (i := 11) (v := ?_) rfl (by kernel_rfl) (fun _ _ _ h => h) (Or.inl ⟨by rfl, fun w0 hw0 => ?_⟩) (fun p hp _ => hSw p hp) ?_
  rotate_left
  · simp [Reads] at hw0
    go_simp
    try with_reducible rfl
  try go_simp
  refine takeU (i := 12) (v := ?_) rfl (by kernel_rfl) (fun _ _ _ h => h) (Or.inl ⟨by rfl, fun w0 hw0 => ?_⟩) (fun p hp _ => hSw p hp) ?_
  rotate_left
  · simp [Reads] at hw0
    go_simp
    try with_reducible rfl
  try go_simp
  refine doneU (by kernel_rfl) ?_
  clear hSw q1
  have hm2 := HM2.out
  obtain ⟨k, hk⟩ : ∃ k, k = y.ix - x.s.base - 1 := ⟨_, rfl⟩
  have hO := HA.out.keep0 (H0.out.2.2.1.trans HK13.out)
  unfold Stp.At at hO
  have hcp := hO.cap
  have hcm := hO.most
  unfold maxLen at hcm
  have hO2 := hO.take (k := k) (c' := k) (by omega) (Nat.le_refl _) (by omega)
  rw [ents_take] at hO2
  have hlen : (x.s.es.take k).length = k := by simp; omega
  have hB3 := H0.out.1.keep HK13.out (by simp)
  have hY3 := H0.out.2.1.keep HK13.out (by simp)
  have hks := (Keeps.refl [sb] w3).set (p := ⟨sb, 4, none⟩) (.inl (by simp)) (.slice x.la k k)
  have hk04 : Keeps [] w _ := (H0.out.2.2.1.trans HK13.out).step hks (fun b hb => .inr (by simp at hb; subst hb; exact H0.out.2.2.2.1))
  have hB4 := (hB3.put 4 (.slice x.la k k)).eq (cs' := Stp.cells ⟨x.s.ev (.cut y.ix), x.la, k⟩) (by simp [Ws.ev, ← hk, hlen])
  have hA4 : Stp.At (w3.setCell ⟨sb, 4, none⟩ (.slice x.la k k)) ⟨x.s.ev (.cut y.ix), x.la, k⟩ := by
    have h1 := hO2.keep hks (fun b hb => by simp; rintro rfl; exact hO.off hB3 (by decide) hb)
    show OwnO _ _ _ _ (x.s.ev (.cut y.ix)).es.length _ _
    rw [show (x.s.ev (.cut y.ix)).es = x.s.es.take k by simp [Ws.ev, ← hk], hlen]
    exact h1
  have HZ := Lib.hid (And.intro hB4 (And.intro hk04 hA4))
  have hcS := hB3.cell
  have hcY := hY3.cell
  have hlS := hB3.lt
  have hfS := hB3.free
  have r1 : IntKind.u64.wrap ((y.ix : Int) - (x.s.base : Int)) = (y.ix : Int) - x.s.base := IntWalk.u64_in _ (by omega)
  have r2 : IntKind.u64.wrap ((y.ix : Int) - (x.s.base : Int) - 1) = (k : Int) := by rw [IntWalk.u64_in _ (by omega)]; omega
  have r3 : (y.ix : Int) - (x.s.base : Int) - 1 = (k : Int) := by omega
  have m3 : (0 : Int) ≤ (k : Int) := by omega
  have m4 : (k : Int) ≤ (x.lc : Int) := by omega
  clear hO hO2 hk hlen hB3 hY3 hks hk04 hB4 hA4 hv hm2 hb hl hcp
  go_upto_region 24 with (fail)
  clear r1 r2 r3 hcS hcY hlS hfS
  generalize World.setCell w3 _ _ = w4 at *
  go_wp2_with (first
    | (refine wpList_load_agg rfl _ _ rfl sb 0 5 rfl 57 _ _ HZ.out.1 Tryz.underlying57 rfl Tryz.sizeSt (by simp) _ rfl ?_)
    | (refine wpList_slice1 rfl 58 57 _ rfl i z (.agg (Stp.cells ⟨x.s.ev (.cut y.ix), x.la, k⟩)) 5 Tryz.underlying58 hi hz hsz rfl rfl (by omega) (by omega) ?_))
  go_ret2
  exact ds_one ⟨x.s.ev (.cut y.ix), x.la, k⟩ (fun _ h => h) HZ.out.2.1 HZ.out.2.2

set_option maxRecDepth 100000 in
set_option maxHeartbeats 8000000 in
theorem sdoes_drop_bad (x : Stp) (y : Wp) (w : World) (hix : y.ix < 18446744073709551616) (hv : y.ix < x.s.base ∨ 4611686018427387904 < y.ix) :
    Calls Tryz.prog 21 #[.agg #[.int .u64 (x.s.term : Nat), .int .i64 x.s.vote, .int .u64 (x.s.base : Nat), .int .u64 (x.s.bt : Nat), .slice x.la x.s.es.length x.lc], .agg #[.int .i64 5, .int .i64 y.n, .int .u64 (y.ix : Nat), .int .u64 (y.tm : Nat), .int .i64 y.vote, .slice y.la y.l.length y.lc, .slice y.ka y.keep.length y.kc]] w (DsPost w x.la [] 40) := by
  have hX0 := Blk.fresh w 57 #[.int .u64 (x.s.term : Nat), .int .i64 x.s.vote, .int .u64 (x.s.base : Nat), .int .u64 (x.s.bt : Nat), .slice x.la x.s.es.length x.lc]
  have hk0 := (Keeps.refl [] w).alloc (.cells #[.int .u64 (x.s.term : Nat), .int .i64 x.s.vote, .int .u64 (x.s.base : Nat), .int .u64 (x.s.bt : Nat), .slice x.la x.s.es.length x.lc] 57)
  have hX1 := hX0.alloc (.cells #[.int .i64 5, .int .i64 y.n, .int .u64 (y.ix : Nat), .int .u64 (y.tm : Nat), .int .i64 y.vote, .slice y.la y.l.length y.lc, .slice y.ka y.keep.length y.kc] 33)
  have hY1 := Blk.fresh (w.alloc (.cells #[.int .u64 (x.s.term : Nat), .int .i64 x.s.vote, .int .u64 (x.s.base : Nat), .int .u64 (x.s.bt : Nat), .slice x.la x.s.es.length x.lc] 57)) 33 #[.int .i64 5, .int .i64 y.n, .int .u64 (y.ix : Nat), .int .u64 (y.tm : Nat), .int .i64 y.vote, .slice y.la y.l.length y.lc, .slice y.ka y.keep.length y.kc]
  have hk1 := hk0.alloc (.cells #[.int .i64 5, .int .i64 y.n, .int .u64 (y.ix : Nat), .int .u64 (y.tm : Nat), .int .i64 y.vote, .slice y.la y.l.length y.lc, .slice y.ka y.keep.length y.kc] 33)
  obtain ⟨sb, hsb⟩ : ∃ sb, sb = w.heap.size := ⟨_, rfl⟩
  obtain ⟨yb, hyb⟩ : ∃ yb, yb = w.heap.size + 1 := ⟨_, rfl⟩
  rw [← hsb] at hX1
  rw [show (w.alloc (.cells #[.int .u64 (x.s.term : Nat), .int .i64 x.s.vote, .int .u64 (x.s.base : Nat), .int .u64 (x.s.bt : Nat), .slice x.la x.s.es.length x.lc] 57)).heap.size = w.heap.size + 1 by simp, ← hyb] at hY1
  have hss : w.heap.size ≤ sb ∧ w.heap.size ≤ yb ∧ sb ≠ yb := by omega
  have H0 := Lib.hid (And.intro hX1 (And.intro hY1 (And.intro hk1 hss)))
  clear hX0 hk0 hX1 hY1 hk1 hss
  go_enter Tryz.func21, Tryz.ntmps21
  go_upto_region 1 with (fail)
  rw [← hyb, ← hsb]
  clear hsb hyb
  generalize World.alloc (World.alloc w _) _ = w1 at *
  have hcS := H0.out.1.cell
  have hcY := H0.out.2.1.cell
  by_cases hlo : y.ix < x.s.base
  · have n1 : (y.ix : Int) < (x.s.base : Int) := by omega
    clear hv
    go_wp2_with fail
    go_ret2
    exact ds_none 40 H0.out.2.2.1
  have n1 : ¬ ((y.ix : Int) < (x.s.base : Int)) := by omega
  have n2 : (4611686018427387904 : Int) < (y.ix : Int) := by omega
  clear hv hlo
  go_wp2_with fail
  go_ret2
  exact ds_none 40 H0.out.2.2.1
end Go.Proofs.YtfgmbjdeimallaaGreatDoor
/- WalPlays: does: entries dropped. -/

namespace Go.Proofs.YtfgmbjdeimallaaGreatDoor
open Go.RowKit Go.Lib

set_option maxRecDepth 100000 in
set_option maxHeartbeats 8000000 in
theorem sdoes_drop (x : Stp) (y : Wp) (w : World) (hA : x.At w) (hb : x.s.base ≤ 4611686018427387904) (hl : x.s.es.length ≤ 1000000) (hv : x.s.base ≤ y.ix ∧ y.ix ≤ 4611686018427387904) :
    Calls Tryz.prog 21 #[.agg #[.int .u64 (x.s.term : Nat), .int .i64 x.s.vote, .int .u64 (x.s.base : Nat), .int .u64 (x.s.bt : Nat), .slice x.la x.s.es.length x.lc], .agg #[.int .i64 5, .int .i64 y.n, .int .u64 (y.ix : Nat), .int .u64 (y.tm : Nat), .int .i64 y.vote, .slice y.la y.l.length y.lc, .slice y.ka y.keep.length y.kc]] w (DsPost w x.la [x.s.ev (.drop y.ix y.tm)] 0) := by
  obtain ⟨i, z, hi, hz, hsz, -, -⟩ := infoSt
  have HB := Lib.hid (And.intro hb (show x.s.es.length ≤ 4611686018427387904 by omega))
  have HA := Lib.hid hA
  clear hA
  have hX0 := Blk.fresh w 57 #[.int .u64 (x.s.term : Nat), .int .i64 x.s.vote, .int .u64 (x.s.base : Nat), .int .u64 (x.s.bt : Nat), .slice x.la x.s.es.length x.lc]
  have hk0 := (Keeps.refl [] w).alloc (.cells #[.int .u64 (x.s.term : Nat), .int .i64 x.s.vote, .int .u64 (x.s.base : Nat), .int .u64 (x.s.bt : Nat), .slice x.la x.s.es.length x.lc] 57)
  have hX1 := hX0.alloc (.cells #[.int .i64 5, .int .i64 y.n, .int .u64 (y.ix : Nat), .int .u64 (y.tm : Nat), .int .i64 y.vote, .slice y.la y.l.length y.lc, .slice y.ka y.keep.length y.kc] 33)
  have hY1 := Blk.fresh (w.alloc (.cells #[.int .u64 (x.s.term : Nat), .int .i64 x.s.vote, .int .u64 (x.s.base : Nat), .int .u64 (x.s.bt : Nat), .slice x.la x.s.es.length x.lc] 57)) 33 #[.int .i64 5, .int .i64 y.n, .int .u64 (y.ix : Nat), .int .u64 (y.tm : Nat), .int .i64 y.vote, .slice y.la y.l.length y.lc, .slice y.ka y.keep.length y.kc]
  have hk1 := hk0.alloc (.cells #[.int .i64 5, .int .i64 y.n, .int .u64 (y.ix : Nat), .int .u64 (y.tm : Nat), .int .i64 y.vote, .slice y.la y.l.length y.lc, .slice y.ka y.keep.length y.kc] 33)
  obtain ⟨sb, hsb⟩ : ∃ sb, sb = w.heap.size := ⟨_, rfl⟩
  obtain ⟨yb, hyb⟩ : ∃ yb, yb = w.heap.size + 1 := ⟨_, rfl⟩
  rw [← hsb] at hX1
  rw [show (w.alloc (.cells #[.int .u64 (x.s.term : Nat), .int .i64 x.s.vote, .int .u64 (x.s.base : Nat), .int .u64 (x.s.bt : Nat), .slice x.la x.s.es.length x.lc] 57)).heap.size = w.heap.size + 1 by simp, ← hyb] at hY1
  have hss : w.heap.size ≤ sb ∧ w.heap.size ≤ yb ∧ sb ≠ yb := by omega
  have H0 := Lib.hid (And.intro hX1 (And.intro hY1 (And.intro hk1 hss)))
  clear hX0 hk0 hX1 hY1 hk1 hss
  go_enter Tryz.func21, Tryz.ntmps21
  go_upto_region 1 with (fail)
  rw [← hyb, ← hsb]
  clear hsb hyb
  generalize World.alloc (World.alloc w _) _ = w1 at *
  have hcS := H0.out.1.cell
  have hcY := H0.out.2.1.cell
  have n1 : ¬ ((y.ix : Int) < (x.s.base : Int)) := by omega
  have n2 : ¬ ((4611686018427387904 : Int) < (y.ix : Int)) := by omega
  go_upto_region 27 with (fail)
  clear hcS hcY n1 n2
  have hR0 : ∀ W : World, Keeps [] w1 W → ∀ q ∈ [((1 : Nat), fun w0 : World => w0.cell? ⟨yb, 2, none⟩ = some (.int .u64 (y.ix : Nat))), ((2 : Nat), fun w0 : World => Blk w0 sb 57 #[.int .u64 (x.s.term : Nat), .int .i64 x.s.vote, .int .u64 (x.s.base : Nat), .int .u64 (x.s.bt : Nat), .slice x.la x.s.es.length x.lc])], q.2 W := fun W hW q hq => by
    have hS := H0.out.1.keep hW (by simp)
    have hY := H0.out.2.1.keep hW (by simp)
    simp only [List.mem_cons, List.not_mem_nil, or_false] at hq
    rcases hq with rfl | rfl
    · exact hY.cell 2
    · exact hS
  have HR0 := Lib.hid hR0
  have hkd := (Keeps.refl [] w1).drew
  have hSw := HR0.out _ hkd
  clear hR0
  refine startU [((1 : Nat), fun w0 : World => w0.cell? ⟨yb, 2, none⟩ = some (.int .u64 (y.ix : Nat))), ((2 : Nat), fun w0 : World => Blk w0 sb 57 #[.int .u64 (x.s.term : Nat), .int .i64 x.s.vote, .int .u64 (x.s.base : Nat), .int .u64 (x.s.bt : Nat), .slice x.la x.s.es.length x.lc])] (by kernel_rfl) ?_
  generalize World.drew w1 = w2 at *
  refine takeU (i := 0) (v := ?_) rfl (by kernel_rfl) (fun _ _ _ h => h) (Or.inl ⟨by rfl, fun w0 hw0 => ?_⟩) (fun p hp _ => hSw p hp) ?_
  rotate_left
  · simp [Reads] at hw0
    go_simp
    try with_reducible rfl
  try go_simp
  refine takeU (i := 1) (v := ?_) rfl (by kernel_rfl) (fun _ _ _ h => h) (Or.inl ⟨by rfl, fun w0 hw0 => ?_⟩) (fun p hp _ => hSw p hp) ?_
  rotate_left
  · simp [Reads] at hw0
    go_simp
    try with_reducible rfl
  try go_simp
  refine takeU (i := 2) (v := .agg #[.int .u64 (x.s.term : Nat), .int .i64 x.s.vote, .int .u64 (x.s.base : Nat), .int .u64 (x.s.bt : Nat), .slice x.la x.s.es.length x.lc]) rfl (by kernel_rfl) (fun _ _ _ h => h) (Or.inl ⟨by rfl, fun w0 hw0 => ?_⟩) (fun p hp _ => hSw p hp) ?_
  · simp [Reads] at hw0
    exact load_yieldsW 57 (.tmp 2) rfl sb 0 5 rfl 57 _ _ hw0 Tryz.underlying57 rfl Tryz.sizeSt (by simp) _ rfl
  try go_simp
  clear hSw
  obtain ⟨m, hm⟩ : ∃ m, m = x.s.last := ⟨_, rfl⟩
  have hm2 : m = x.s.base + x.s.es.length := hm
  have HM2 := Lib.hid hm2
  clear hm2
  have HL := Lib.hid (And.intro (slast x w2 HB.out.1 HB.out.2) hkd)
  clear hkd
  refine oneU (i := 3) rfl (by kernel_rfl) (fun K hK => ?_)
  rw [if_pos (show Region.wanted _ _ = true from rfl)]
  go_wp2_with fail
  refine HL.out.1.mono ?_
  rintro e w3 ⟨rfl, hk3⟩
  rw [← hm]
  clear hm
  try dsimp only
  have hk13 := HL.out.2.trans hk3
  refine hK _ _ (fun q hq _ _ => HR0.out _ hk13 q hq) ?_
  clear hK K hk3
  try go_simp
  have hSw := HR0.out _ hk13
  have HK13 := Lib.hid hk13
  clear hk13 HR0
  have hO := HA.out.keep0 (H0.out.2.2.1.trans HK13.out)
  unfold Stp.At at hO
  have hcp := hO.cap
  have hcm := hO.most
  unfold maxLen at hcm
  have hB3 := H0.out.1.keep HK13.out (by simp)
  have hY3 := H0.out.2.1.keep HK13.out (by simp)
  by_cases hbig : m < y.ix
  · have n3 : ¬ ((y.ix : Int) ≤ (m : Int)) := by omega
    have n4 : ¬ (y.ix ≤ m) := by omega
    refine takeU (i := 4) (v := ?_) rfl (by kernel_rfl) (fun _ _ _ h => h) (Or.inl ⟨by rfl, fun w0 hw0 => ?_⟩) (fun p hp _ => hSw p hp) ?_
    rotate_left
    · simp [Reads] at hw0
      go_simp
      try with_reducible rfl
    try go_simp
    refine doneU (by kernel_rfl) ?_
    clear hSw
    have hm2 := HM2.out
    have hO2 : OwnO w3 65 5 none 0 0 (ents (x.s.es.drop (y.ix - x.s.base))) := by
      rw [List.drop_of_length_le (by omega)]
      exact OwnO.nil _ _ _
    have hnl : (0 : Nat) = (x.s.ev (.drop y.ix y.tm)).es.length := by simp [Ws.ev]; omega
    have HKE : Hid ((x.s.ev (.drop y.ix y.tm)).es = x.s.es.drop (y.ix - x.s.base)) := Lib.hid rfl
    clear hm2 hv hb hl hcp hcm
    have hks := (Keeps.refl [sb] w3).set (p := ⟨sb, 4, none⟩) (.inl (by simp)) (.slice none 0 0)
    have hk04 : Keeps [] w _ := (H0.out.2.2.1.trans HK13.out).step hks (fun b hb => .inr (by simp at hb; subst hb; exact H0.out.2.2.2.1))
    have hB4 := (hB3.put 4 (.slice none 0 0)).eq (cs' := #[.int .u64 (x.s.term : Nat), .int .i64 x.s.vote, .int .u64 (x.s.base : Nat), .int .u64 (x.s.bt : Nat), .slice none 0 0]) (by simp)
    have hY4 := hY3.keep hks (by simp; exact fun h => H0.out.2.2.2.2.2 h.symm)
    have hO4 := hO2.keep hks (fun b hb => by simp; rintro rfl; exact hO2.off hB3 (by decide) hb)
    have HT := Lib.hid (And.intro hB4 (And.intro hY4 (And.intro hO4 (And.intro hk04 hnl))))
    have hcS := hB3.cell
    have hcY := hY3.cell
    have hlS := hB3.lt
    have hfS := hB3.free
    clear hks hk04 hB4 hY4 hO4 hnl hO2 hO hB3 hY3
    go_upto_region 30 with (fail)
    clear hcS hcY hlS hfS
    generalize World.setCell w3 _ _ = w4 at *
    have hR0 : ∀ W : World, Keeps [sb] w4 W → ∀ q ∈ [((1 : Nat), fun w0 : World => w0.cell? ⟨yb, 2, none⟩ = some (.int .u64 (y.ix : Nat))), ((3 : Nat), fun w0 : World => w0.cell? ⟨yb, 3, none⟩ = some (.int .u64 (y.tm : Nat)))], q.2 W := fun W hW q hq => by
      have hY := HT.out.2.1.keep hW (by simp; exact fun h => H0.out.2.2.2.2.2 h.symm)
      simp only [List.mem_cons, List.not_mem_nil, or_false] at hq
      rcases hq with rfl | rfl
      · exact hY.cell 2
      · exact hY.cell 3
    have HR0 := Lib.hid hR0
    have hkd := (Keeps.refl [sb] w4).drew
    have hSw := HR0.out _ hkd
    have hB5 := HT.out.1.drew
    have hO5 := HT.out.2.2.1.keep0 ((Keeps.refl [] w4).drew)
    clear hR0
    refine startU [((1 : Nat), fun w0 : World => w0.cell? ⟨yb, 2, none⟩ = some (.int .u64 (y.ix : Nat))), ((3 : Nat), fun w0 : World => w0.cell? ⟨yb, 3, none⟩ = some (.int .u64 (y.tm : Nat)))] (by kernel_rfl) ?_
    generalize World.drew w4 = w5 at *
    refine takeU (i := 0) (v := ?_) rfl (by kernel_rfl) (fun _ _ _ h => h) (Or.inl ⟨by rfl, fun w0 hw0 => ?_⟩) (fun p hp _ => hSw p hp) ?_
    rotate_left
    · simp [Reads] at hw0
      go_simp
      try with_reducible rfl
    try go_simp
    refine takeU (i := 1) (v := ?_) rfl (by kernel_rfl) (fun _ _ _ h => h) (Or.inl ⟨by rfl, fun w0 hw0 => ?_⟩) (fun p hp _ => hSw p hp) ?_
    rotate_left
    · simp [Reads] at hw0
      go_simp
      try with_reducible rfl
    try go_simp
    refine takeU (i := 2) (v := ?_) rfl (by kernel_rfl) (fun _ _ _ h => h) (Or.inl ⟨by rfl, fun w0 hw0 => ?_⟩) (fun p hp _ => hSw p hp) ?_
    rotate_left
    · simp [Reads] at hw0
      go_simp
      try with_reducible rfl
    try go_simp
    refine takeU (i := 3) (v := ?_) rfl (by kernel_rfl) (fun _ _ _ h => h) (Or.inl ⟨by rfl, fun w0 hw0 => ?_⟩) (fun p hp _ => hSw p hp) ?_
    rotate_left
    · simp [Reads] at hw0
      go_simp
      try with_reducible rfl
    try go_simp
    refine takeU (i := 4) (v := ?_) rfl (by kernel_rfl) (fun _ _ _ h => h) (Or.inl ⟨by rfl, fun w0 hw0 => ?_⟩) (fun p hp _ => hSw p hp) ?_
    rotate_left
    · simp [Reads] at hw0
      go_simp
      try with_reducible rfl
    try go_simp
    clear hSw
    have hc5 := hB5.cell
    have hl5 := hB5.lt
    have hf5 := hB5.free
    have hk6 := hkd.set (p := ⟨sb, 2, none⟩) (.inl (by simp)) (.int .u64 (y.ix : Nat))
    have hB6 := hB5.put 2 (.int .u64 (y.ix : Nat))
    have hO6 := hO5.keep ((Keeps.refl [sb] w5).set (p := ⟨sb, 2, none⟩) (.inl (by simp)) (.int .u64 (y.ix : Nat))) (fun b hb => by simp; rintro rfl; exact hO5.off hB5 (by decide) hb)
    have H6 := Lib.hid (And.intro hk6 (And.intro hB6 hO6))
    clear hk6 hB6 hO6 hkd hB5 hO5
    refine oneU (i := 5) rfl (by kernel_rfl) (fun K hK => ?_)
    go_simp
    refine hK _ _ (fun q hq _ _ => HR0.out _ H6.out.1 q hq) ?_
    clear hK K hc5 hl5 hf5
    generalize World.setCell w5 _ _ = w6 at *
    have hSw := HR0.out _ H6.out.1
    try go_simp
    refine takeU (i := 6) (v := ?_) rfl (by kernel_rfl) (fun _ _ _ h => h) (Or.inl ⟨by rfl, fun w0 hw0 => ?_⟩) (fun p hp _ => hSw p hp) ?_
    rotate_left
    · simp [Reads] at hw0
      go_simp
      try with_reducible rfl
    try go_simp
    clear hSw
    have hc6 := H6.out.2.1.cell
    have hl6 := H6.out.2.1.lt
    have hf6 := H6.out.2.1.free
    have hk7 := H6.out.1.set (p := ⟨sb, 3, none⟩) (.inl (by simp)) (.int .u64 (y.tm : Nat))
    have hB7 := (H6.out.2.1.put 3 (.int .u64 (y.tm : Nat))).eq (cs' := Stp.cells ⟨x.s.ev (.drop y.ix y.tm), none, 0⟩) (by
      have e := HT.out.2.2.2.2
      show _ = ((#[.int .u64 (x.s.term : Nat), .int .i64 x.s.vote, .int .u64 (y.ix : Nat), .int .u64 (y.tm : Nat), .slice none (x.s.ev (.drop y.ix y.tm)).es.length 0] : Array Value))
      rw [← e]
      simp)
    have hO7 := H6.out.2.2.keep ((Keeps.refl [sb] w6).set (p := ⟨sb, 3, none⟩) (.inl (by simp)) (.int .u64 (y.tm : Nat))) (fun b hb => by simp; rintro rfl; exact H6.out.2.2.off H6.out.2.1 (by decide) hb)
    have hk07 : Keeps [] w _ := HT.out.2.2.2.1.step hk7 (fun b hb => .inr (by simp at hb; subst hb; exact H0.out.2.2.2.1))
    have hA7 : Stp.At (w6.setCell ⟨sb, 3, none⟩ (.int .u64 (y.tm : Nat))) ⟨x.s.ev (.drop y.ix y.tm), none, 0⟩ := by
      show OwnO _ _ 5 none (x.s.ev (.drop y.ix y.tm)).es.length 0 (ents (x.s.ev (.drop y.ix y.tm)).es)
      rw [← HT.out.2.2.2.2, HKE.out]
      exact hO7
    have HZ := Lib.hid (And.intro hB7 (And.intro hk07 hA7))
    clear hk7 hB7 hO7 hk07 hA7
    refine oneU (i := 7) rfl (by kernel_rfl) (fun K hK => ?_)
    go_simp
    refine hK _ _ (fun q hq _ _ => HR0.out _ (H6.out.1.set (p := ⟨sb, 3, none⟩) (.inl (by simp)) (.int .u64 (y.tm : Nat))) q hq) ?_
    clear hK K hc6 hl6 hf6 HR0
    try go_simp
    refine doneU (by kernel_rfl) ?_
    generalize World.setCell w6 _ _ = w7 at *
    go_wp2_with (first
      | (refine wpList_load_agg rfl _ _ rfl sb 0 5 rfl 57 _ _ HZ.out.1 Tryz.underlying57 rfl Tryz.sizeSt (by simp) _ rfl ?_)
      | (refine wpList_slice1 rfl 58 57 _ rfl i z (.agg (Stp.cells ⟨x.s.ev (.drop y.ix y.tm), none, 0⟩)) 5 Tryz.underlying58 hi hz hsz rfl rfl (by omega) (by omega) ?_))
    go_ret2
    exact ds_one ⟨x.s.ev (.drop y.ix y.tm), none, 0⟩ (fun _ h => by simp at h) HZ.out.2.1 HZ.out.2.2

  have n3 : (y.ix : Int) ≤ (m : Int) := by omega
  refine takeU (i := 4) (v := ?_) rfl (by kernel_rfl) (fun _ _ _ h => h) (Or.inl ⟨by rfl, fun w0 hw0 => ?_⟩) (fun p hp _ => hSw p hp) ?_
  rotate_left
  · simp [Reads] at hw0
    go_simp
    try with_reducible rfl
  try go_simp
  refine doneU (by kernel_rfl) ?_
  clear hSw
  have hm2 := HM2.out
  obtain ⟨k, hk⟩ : ∃ k, k = y.ix - x.s.base := ⟨_, rfl⟩
  have q1 : IntKind.u64.wrap ((y.ix : Int) - (x.s.base : Int)) = (k : Int) := by rw [IntWalk.u64_in _ (by omega)]; omega
  have q2 : (y.ix : Int) - (x.s.base : Int) = (k : Int) := by omega
  have q3 : IntKind.u64.wrap (k : Int) = (k : Int) := IntWalk.u64_in _ (by omega)
  have m1 : k ≤ x.s.es.length := by omega
  have m2 : k ≤ x.lc := by omega
  have m3 : (0 : Int) ≤ (k : Int) := by omega
  have m4 : (k : Int) ≤ (x.lc : Int) := by omega
  have m5 : (k : Int) ≤ (x.s.es.length : Int) := by omega
  have m6 : (x.s.es.length : Int) ≤ (x.lc : Int) := by omega
  have hO2 := hO.drop m1
  rw [ents_drop] at hO2
  have hnl : x.s.es.length - k = (x.s.ev (.drop y.ix y.tm)).es.length := by simp [Ws.ev, ← hk]
  have HKE : Hid ((x.s.ev (.drop y.ix y.tm)).es = x.s.es.drop k) := Lib.hid (by rw [hk]; rfl)
  clear hk hm2 hv hb hl hcm n3
  have HO2 := Lib.hid (And.intro hO2 hnl)
  clear hO2 hnl
  rcases hO with ⟨h01, h02, h03, h04⟩ | ⟨g, o, cur, h01, h04⟩
  · have hO2 : OwnO w3 65 5 none 0 0 (ents (x.s.es.drop k)) := by
      have h1 := HO2.out.1
      rw [h01, h03, h02] at h1
      simpa [show k = 0 by omega] using h1
    have hnl : (0 : Nat) = (x.s.ev (.drop y.ix y.tm)).es.length := by rw [← HO2.out.2]; omega
    have hk0 : k = 0 := by omega
    subst hk0
    rw [h01, h02, h03] at hB3
    simp only [h02, h03] at m1 m2 m4 m5 m6 hcp
    clear h01 h02 h03 h04 hbig
    have hks := (Keeps.refl [sb] w3).set (p := ⟨sb, 4, none⟩) (.inl (by simp)) (.slice none 0 0)
    have hk04 : Keeps [] w _ := (H0.out.2.2.1.trans HK13.out).step hks (fun b hb => .inr (by simp at hb; subst hb; exact H0.out.2.2.2.1))
    have hB4 := (hB3.put 4 (.slice none 0 0)).eq (cs' := #[.int .u64 (x.s.term : Nat), .int .i64 x.s.vote, .int .u64 (x.s.base : Nat), .int .u64 (x.s.bt : Nat), .slice none 0 0]) (by simp)
    have hY4 := hY3.keep hks (by simp; exact fun h => H0.out.2.2.2.2.2 h.symm)
    have hO := hO2
    have hO4 := hO2.keep hks (fun b hb => by simp; rintro rfl; exact hO2.off hB3 (by decide) hb)
    have HT := Lib.hid (And.intro hB4 (And.intro hY4 (And.intro hO4 (And.intro hk04 hnl))))
    have hcS := hB3.cell
    have hcY := hY3.cell
    have hlS := hB3.lt
    have hfS := hB3.free
    clear hks hk04 hB4 hY4 hO4 hnl hO2 hO hB3 hY3
    go_upto_region 30 with (fail)
    clear hcS hcY hlS hfS
    generalize World.setCell w3 _ _ = w4 at *
    have hR0 : ∀ W : World, Keeps [sb] w4 W → ∀ q ∈ [((1 : Nat), fun w0 : World => w0.cell? ⟨yb, 2, none⟩ = some (.int .u64 (y.ix : Nat))), ((3 : Nat), fun w0 : World => w0.cell? ⟨yb, 3, none⟩ = some (.int .u64 (y.tm : Nat)))], q.2 W := fun W hW q hq => by
      have hY := HT.out.2.1.keep hW (by simp; exact fun h => H0.out.2.2.2.2.2 h.symm)
      simp only [List.mem_cons, List.not_mem_nil, or_false] at hq
      rcases hq with rfl | rfl
      · exact hY.cell 2
      · exact hY.cell 3
    have HR0 := Lib.hid hR0
    have hkd := (Keeps.refl [sb] w4).drew
    have hSw := HR0.out _ hkd
    have hB5 := HT.out.1.drew
    have hO5 := HT.out.2.2.1.keep0 ((Keeps.refl [] w4).drew)
    clear hR0
    refine startU [((1 : Nat), fun w0 : World => w0.cell? ⟨yb, 2, none⟩ = some (.int .u64 (y.ix : Nat))), ((3 : Nat), fun w0 : World => w0.cell? ⟨yb, 3, none⟩ = some (.int .u64 (y.tm : Nat)))] (by kernel_rfl) ?_
    generalize World.drew w4 = w5 at *
    refine takeU (i := 0) (v := ?_) rfl (by kernel_rfl) (fun _ _ _ h => h) (Or.inl ⟨by rfl, fun w0 hw0 => ?_⟩) (fun p hp _ => hSw p hp) ?_
    rotate_left
    · simp [Reads] at hw0
      go_simp
      try with_reducible rfl
    try go_simp
    refine takeU (i := 1) (v := ?_) rfl (by kernel_rfl) (fun _ _ _ h => h) (Or.inl ⟨by rfl, fun w0 hw0 => ?_⟩) (fun p hp _ => hSw p hp) ?_
    rotate_left
    · simp [Reads] at hw0
      go_simp
      try with_reducible rfl
    try go_simp
    refine takeU (i := 2) (v := ?_) rfl (by kernel_rfl) (fun _ _ _ h => h) (Or.inl ⟨by rfl, fun w0 hw0 => ?_⟩) (fun p hp _ => hSw p hp) ?_
    rotate_left
    · simp [Reads] at hw0
      go_simp
      try with_reducible rfl
    try go_simp
    refine takeU (i := 3) (v := ?_) rfl (by kernel_rfl) (fun _ _ _ h => h) (Or.inl ⟨by rfl, fun w0 hw0 => ?_⟩) (fun p hp _ => hSw p hp) ?_
    rotate_left
    · simp [Reads] at hw0
      go_simp
      try with_reducible rfl
    try go_simp
    refine takeU (i := 4) (v := ?_) rfl (by kernel_rfl) (fun _ _ _ h => h) (Or.inl ⟨by rfl, fun w0 hw0 => ?_⟩) (fun p hp _ => hSw p hp) ?_
    rotate_left
    · simp [Reads] at hw0
      go_simp
      try with_reducible rfl
    try go_simp
    clear hSw
    have hc5 := hB5.cell
    have hl5 := hB5.lt
    have hf5 := hB5.free
    have hk6 := hkd.set (p := ⟨sb, 2, none⟩) (.inl (by simp)) (.int .u64 (y.ix : Nat))
    have hB6 := hB5.put 2 (.int .u64 (y.ix : Nat))
    have hO6 := hO5.keep ((Keeps.refl [sb] w5).set (p := ⟨sb, 2, none⟩) (.inl (by simp)) (.int .u64 (y.ix : Nat))) (fun b hb => by simp; rintro rfl; exact hO5.off hB5 (by decide) hb)
    have H6 := Lib.hid (And.intro hk6 (And.intro hB6 hO6))
    clear hk6 hB6 hO6 hkd hB5 hO5
    refine oneU (i := 5) rfl (by kernel_rfl) (fun K hK => ?_)
    go_simp
    refine hK _ _ (fun q hq _ _ => HR0.out _ H6.out.1 q hq) ?_
    clear hK K hc5 hl5 hf5
    generalize World.setCell w5 _ _ = w6 at *
    have hSw := HR0.out _ H6.out.1
    try go_simp
    refine takeU (i := 6) (v := ?_) rfl (by kernel_rfl) (fun _ _ _ h => h) (Or.inl ⟨by rfl, fun w0 hw0 => ?_⟩) (fun p hp _ => hSw p hp) ?_
    rotate_left
    · simp [Reads] at hw0
      go_simp
      try with_reducible rfl
    try go_simp
    clear hSw
    have hc6 := H6.out.2.1.cell
    have hl6 := H6.out.2.1.lt
    have hf6 := H6.out.2.1.free
    have hk7 := H6.out.1.set (p := ⟨sb, 3, none⟩) (.inl (by simp)) (.int .u64 (y.tm : Nat))
    have hB7 := (H6.out.2.1.put 3 (.int .u64 (y.tm : Nat))).eq (cs' := Stp.cells ⟨x.s.ev (.drop y.ix y.tm), none, 0⟩) (by
      have e := HT.out.2.2.2.2
      show _ = ((#[.int .u64 (x.s.term : Nat), .int .i64 x.s.vote, .int .u64 (y.ix : Nat), .int .u64 (y.tm : Nat), .slice none (x.s.ev (.drop y.ix y.tm)).es.length 0] : Array Value))
      rw [← e]
      simp)
    have hO7 := H6.out.2.2.keep ((Keeps.refl [sb] w6).set (p := ⟨sb, 3, none⟩) (.inl (by simp)) (.int .u64 (y.tm : Nat))) (fun b hb => by simp; rintro rfl; exact H6.out.2.2.off H6.out.2.1 (by decide) hb)
    have hk07 : Keeps [] w _ := HT.out.2.2.2.1.step hk7 (fun b hb => .inr (by simp at hb; subst hb; exact H0.out.2.2.2.1))
    have hA7 : Stp.At (w6.setCell ⟨sb, 3, none⟩ (.int .u64 (y.tm : Nat))) ⟨x.s.ev (.drop y.ix y.tm), none, 0⟩ := by
      show OwnO _ _ 5 none (x.s.ev (.drop y.ix y.tm)).es.length 0 (ents (x.s.ev (.drop y.ix y.tm)).es)
      rw [← HT.out.2.2.2.2, HKE.out]
      exact hO7
    have HZ := Lib.hid (And.intro hB7 (And.intro hk07 hA7))
    clear hk7 hB7 hO7 hk07 hA7
    refine oneU (i := 7) rfl (by kernel_rfl) (fun K hK => ?_)
    go_simp
    refine hK _ _ (fun q hq _ _ => HR0.out _ (H6.out.1.set (p := ⟨sb, 3, none⟩) (.inl (by simp)) (.int .u64 (y.tm : Nat))) q hq) ?_
    clear hK K hc6 hl6 hf6 HR0
    try go_simp
    refine doneU (by kernel_rfl) ?_
    generalize World.setCell w6 _ _ = w7 at *
    go_wp2_with (first
      | (refine wpList_load_agg rfl _ _ rfl sb 0 5 rfl 57 _ _ HZ.out.1 Tryz.underlying57 rfl Tryz.sizeSt (by simp) _ rfl ?_)
      | (refine wpList_slice1 rfl 58 57 _ rfl i z (.agg (Stp.cells ⟨x.s.ev (.drop y.ix y.tm), none, 0⟩)) 5 Tryz.underlying58 hi hz hsz rfl rfl (by omega) (by omega) ?_))
    go_ret2
    exact ds_one ⟨x.s.ev (.drop y.ix y.tm), none, 0⟩ (fun _ h => by simp at h) HZ.out.2.1 HZ.out.2.2

  · have HO := Lib.hid (show OwnO w3 65 5 x.la x.s.es.length x.lc (ents x.s.es) from .inr ⟨g, o, cur, h01, h04⟩)
    have HLA := Lib.hid (show blks x.la = [g] by rw [h01])
    clear h04
    by_cases hck : x.lc = k
    · have hO2 : OwnO w3 65 5 (some ⟨g, o, none⟩) 0 0 (ents (x.s.es.drop k)) := by
        have h1 := HO2.out.1
        rw [if_pos hck, h01, show x.s.es.length - k = 0 by omega, show x.lc - k = 0 by omega] at h1
        exact h1
      have hnl : (0 : Nat) = (x.s.ev (.drop y.ix y.tm)).es.length := by rw [← HO2.out.2]; omega
      have hkl : k = x.s.es.length := by omega
      have hO := hO2
      rw [h01, hck, ← hkl] at hB3
      rw [hck] at m2 m4 m6 hcp
      rw [← hkl] at m1 m5 m6 hcp
      clear h01 hbig hck hkl
      have hks := (Keeps.refl [sb] w3).set (p := ⟨sb, 4, none⟩) (.inl (by simp)) (.slice (some ⟨g, o, none⟩) 0 0)
      have hk04 : Keeps [] w _ := (H0.out.2.2.1.trans HK13.out).step hks (fun b hb => .inr (by simp at hb; subst hb; exact H0.out.2.2.2.1))
      have hB4 := (hB3.put 4 (.slice (some ⟨g, o, none⟩) 0 0)).eq (cs' := #[.int .u64 (x.s.term : Nat), .int .i64 x.s.vote, .int .u64 (x.s.base : Nat), .int .u64 (x.s.bt : Nat), .slice (some ⟨g, o, none⟩) 0 0]) (by simp)
      have hY4 := hY3.keep hks (by simp; exact fun h => H0.out.2.2.2.2.2 h.symm)
      have hO4 := hO2.keep hks (fun b hb => by simp; rintro rfl; exact hO2.off hB3 (by decide) hb)
      have HT := Lib.hid (And.intro hB4 (And.intro hY4 (And.intro hO4 (And.intro hk04 hnl))))
      have hcS := hB3.cell
      have hcY := hY3.cell
      have hlS := hB3.lt
      have hfS := hB3.free
      clear hks hk04 hB4 hY4 hO4 hnl hO2 hO hB3 hY3
      go_upto_region 30 with (fail)
      clear hcS hcY hlS hfS
      generalize World.setCell w3 _ _ = w4 at *
      have hR0 : ∀ W : World, Keeps [sb] w4 W → ∀ q ∈ [((1 : Nat), fun w0 : World => w0.cell? ⟨yb, 2, none⟩ = some (.int .u64 (y.ix : Nat))), ((3 : Nat), fun w0 : World => w0.cell? ⟨yb, 3, none⟩ = some (.int .u64 (y.tm : Nat)))], q.2 W := fun W hW q hq => by
        have hY := HT.out.2.1.keep hW (by simp; exact fun h => H0.out.2.2.2.2.2 h.symm)
        simp only [List.mem_cons, List.not_mem_nil, or_false] at hq
        rcases hq with rfl | rfl
        · exact hY.cell 2
        · exact hY.cell 3
      have HR0 := Lib.hid hR0
      have hkd := (Keeps.refl [sb] w4).drew
      have hSw := HR0.out _ hkd
      have hB5 := HT.out.1.drew
      have hO5 := HT.out.2.2.1.keep0 ((Keeps.refl [] w4).drew)
      clear hR0
      refine startU [((1 : Nat), fun w0 : World => w0.cell? ⟨yb, 2, none⟩ = some (.int .u64 (y.ix : Nat))), ((3 : Nat), fun w0 : World => w0.cell? ⟨yb, 3, none⟩ = some (.int .u64 (y.tm : Nat)))] (by kernel_rfl) ?_
      generalize World.drew w4 = w5 at *
      refine takeU (i := 0) (v := ?_) rfl (by kernel_rfl) (fun _ _ _ h => h) (Or.inl ⟨by rfl, fun w0 hw0 => ?_⟩) (fun p hp _ => hSw p hp) ?_
      rotate_left
      · simp [Reads] at hw0
        go_simp
        try with_reducible rfl
      try go_simp
      refine takeU (i := 1) (v := ?_) rfl (by kernel_rfl) (fun _ _ _ h => h) (Or.inl ⟨by rfl, fun w0 hw0 => ?_⟩) (fun p hp _ => hSw p hp) ?_
      rotate_left
      · simp [Reads] at hw0
        go_simp
        try with_reducible rfl
      try go_simp
      refine takeU (i := 2) (v := ?_) rfl (by kernel_rfl) (fun _ _ _ h => h) (Or.inl ⟨by rfl, fun w0 hw0 => ?_⟩) (fun p hp _ => hSw p hp) ?_
      rotate_left
      · simp [Reads] at hw0
        go_simp
        try with_reducible rfl
      try go_simp
      refine takeU (i := 3) (v := ?_) rfl (by kernel_rfl) (fun _ _ _ h => h) (Or.inl ⟨by rfl, fun w0 hw0 => ?_⟩) (fun p hp _ => hSw p hp) ?_
      rotate_left
      · simp [Reads] at hw0
        go_simp
        try with_reducible rfl
      try go_simp
      refine takeU (i := 4) (v := ?_) rfl (by kernel_rfl) (fun _ _ _ h => h) (Or.inl ⟨by rfl, fun w0 hw0 => ?_⟩) (fun p hp _ => hSw p hp) ?_
      rotate_left
      · simp [Reads] at hw0
        go_simp
        try with_reducible rfl
      try go_simp
      clear hSw
      have hc5 := hB5.cell
      have hl5 := hB5.lt
      have hf5 := hB5.free
      have hk6 := hkd.set (p := ⟨sb, 2, none⟩) (.inl (by simp)) (.int .u64 (y.ix : Nat))
      have hB6 := hB5.put 2 (.int .u64 (y.ix : Nat))
      have hO6 := hO5.keep ((Keeps.refl [sb] w5).set (p := ⟨sb, 2, none⟩) (.inl (by simp)) (.int .u64 (y.ix : Nat))) (fun b hb => by simp; rintro rfl; exact hO5.off hB5 (by decide) hb)
      have H6 := Lib.hid (And.intro hk6 (And.intro hB6 hO6))
      clear hk6 hB6 hO6 hkd hB5 hO5
      refine oneU (i := 5) rfl (by kernel_rfl) (fun K hK => ?_)
      go_simp
      refine hK _ _ (fun q hq _ _ => HR0.out _ H6.out.1 q hq) ?_
      clear hK K hc5 hl5 hf5
      generalize World.setCell w5 _ _ = w6 at *
      have hSw := HR0.out _ H6.out.1
      try go_simp
      refine takeU (i := 6) (v := ?_) rfl (by kernel_rfl) (fun _ _ _ h => h) (Or.inl ⟨by rfl, fun w0 hw0 => ?_⟩) (fun p hp _ => hSw p hp) ?_
      rotate_left
      · simp [Reads] at hw0
        go_simp
        try with_reducible rfl
      try go_simp
      clear hSw
      have hc6 := H6.out.2.1.cell
      have hl6 := H6.out.2.1.lt
      have hf6 := H6.out.2.1.free
      have hk7 := H6.out.1.set (p := ⟨sb, 3, none⟩) (.inl (by simp)) (.int .u64 (y.tm : Nat))
      have hB7 := (H6.out.2.1.put 3 (.int .u64 (y.tm : Nat))).eq (cs' := Stp.cells ⟨x.s.ev (.drop y.ix y.tm), (some ⟨g, o, none⟩), 0⟩) (by
        have e := HT.out.2.2.2.2
        show _ = ((#[.int .u64 (x.s.term : Nat), .int .i64 x.s.vote, .int .u64 (y.ix : Nat), .int .u64 (y.tm : Nat), .slice (some ⟨g, o, none⟩) (x.s.ev (.drop y.ix y.tm)).es.length 0] : Array Value))
        rw [← e]
        simp)
      have hO7 := H6.out.2.2.keep ((Keeps.refl [sb] w6).set (p := ⟨sb, 3, none⟩) (.inl (by simp)) (.int .u64 (y.tm : Nat))) (fun b hb => by simp; rintro rfl; exact H6.out.2.2.off H6.out.2.1 (by decide) hb)
      have hk07 : Keeps [] w _ := HT.out.2.2.2.1.step hk7 (fun b hb => .inr (by simp at hb; subst hb; exact H0.out.2.2.2.1))
      have hA7 : Stp.At (w6.setCell ⟨sb, 3, none⟩ (.int .u64 (y.tm : Nat))) ⟨x.s.ev (.drop y.ix y.tm), (some ⟨g, o, none⟩), 0⟩ := by
        show OwnO _ _ 5 (some ⟨g, o, none⟩) (x.s.ev (.drop y.ix y.tm)).es.length 0 (ents (x.s.ev (.drop y.ix y.tm)).es)
        rw [← HT.out.2.2.2.2, HKE.out]
        exact hO7
      have HZ := Lib.hid (And.intro hB7 (And.intro hk07 hA7))
      clear hk7 hB7 hO7 hk07 hA7
      refine oneU (i := 7) rfl (by kernel_rfl) (fun K hK => ?_)
      go_simp
      refine hK _ _ (fun q hq _ _ => HR0.out _ (H6.out.1.set (p := ⟨sb, 3, none⟩) (.inl (by simp)) (.int .u64 (y.tm : Nat))) q hq) ?_
      clear hK K hc6 hl6 hf6 HR0
      try go_simp
      refine doneU (by kernel_rfl) ?_
      generalize World.setCell w6 _ _ = w7 at *
      go_wp2_with (first
        | (refine wpList_load_agg rfl _ _ rfl sb 0 5 rfl 57 _ _ HZ.out.1 Tryz.underlying57 rfl Tryz.sizeSt (by simp) _ rfl ?_)
        | (refine wpList_slice1 rfl 58 57 _ rfl i z (.agg (Stp.cells ⟨x.s.ev (.drop y.ix y.tm), (some ⟨g, o, none⟩), 0⟩)) 5 Tryz.underlying58 hi hz hsz rfl rfl (by omega) (by omega) ?_))
      go_ret2
      exact ds_one ⟨x.s.ev (.drop y.ix y.tm), (some ⟨g, o, none⟩), 0⟩ (fun _ h => by rw [HLA.out]; exact h) HZ.out.2.1 HZ.out.2.2

    · have hO2 : OwnO w3 65 5 (some ⟨g, o + k * 5, none⟩) (x.s.es.length - k) (x.lc - k) (ents (x.s.es.drop k)) := by
        have h1 := HO2.out.1
        rw [if_neg hck, h01] at h1
        simpa [Addr.add_lit] using h1
      have hnl := HO2.out.2
      have hO := hO2
      rw [h01] at hB3
      clear h01 hbig
      have hks := (Keeps.refl [sb] w3).set (p := ⟨sb, 4, none⟩) (.inl (by simp)) (.slice (some ⟨g, o + k * 5, none⟩) (x.s.es.length - k) (x.lc - k))
      have hk04 : Keeps [] w _ := (H0.out.2.2.1.trans HK13.out).step hks (fun b hb => .inr (by simp at hb; subst hb; exact H0.out.2.2.2.1))
      have hB4 := (hB3.put 4 (.slice (some ⟨g, o + k * 5, none⟩) (x.s.es.length - k) (x.lc - k))).eq (cs' := #[.int .u64 (x.s.term : Nat), .int .i64 x.s.vote, .int .u64 (x.s.base : Nat), .int .u64 (x.s.bt : Nat), .slice (some ⟨g, o + k * 5, none⟩) (x.s.es.length - k) (x.lc - k)]) (by simp)
      have hY4 := hY3.keep hks (by simp; exact fun h => H0.out.2.2.2.2.2 h.symm)
      have hO4 := hO2.keep hks (fun b hb => by simp; rintro rfl; exact hO2.off hB3 (by decide) hb)
      have HT := Lib.hid (And.intro hB4 (And.intro hY4 (And.intro hO4 (And.intro hk04 hnl))))
      have hcS := hB3.cell
      have hcY := hY3.cell
      have hlS := hB3.lt
      have hfS := hB3.free
      clear hks hk04 hB4 hY4 hO4 hnl hO2 hO hB3 hY3
      go_upto_region 30 with (fail)
      clear hcS hcY hlS hfS
      generalize World.setCell w3 _ _ = w4 at *
      have hR0 : ∀ W : World, Keeps [sb] w4 W → ∀ q ∈ [((1 : Nat), fun w0 : World => w0.cell? ⟨yb, 2, none⟩ = some (.int .u64 (y.ix : Nat))), ((3 : Nat), fun w0 : World => w0.cell? ⟨yb, 3, none⟩ = some (.int .u64 (y.tm : Nat)))], q.2 W := fun W hW q hq => by
        have hY := HT.out.2.1.keep hW (by simp; exact fun h => H0.out.2.2.2.2.2 h.symm)
        simp only [List.mem_cons, List.not_mem_nil, or_false] at hq
        rcases hq with rfl | rfl
        · exact hY.cell 2
        · exact hY.cell 3
      have HR0 := Lib.hid hR0
      have hkd := (Keeps.refl [sb] w4).drew
      have hSw := HR0.out _ hkd
      have hB5 := HT.out.1.drew
      have hO5 := HT.out.2.2.1.keep0 ((Keeps.refl [] w4).drew)
      clear hR0
      refine startU [((1 : Nat), fun w0 : World => w0.cell? ⟨yb, 2, none⟩ = some (.int .u64 (y.ix : Nat))), ((3 : Nat), fun w0 : World => w0.cell? ⟨yb, 3, none⟩ = some (.int .u64 (y.tm : Nat)))] (by kernel_rfl) ?_
      generalize World.drew w4 = w5 at *
      refine takeU (i := 0) (v := ?_) rfl (by kernel_rfl) (fun _ _ _ h => h) (Or.inl ⟨by rfl, fun w0 hw0 => ?_⟩) (fun p hp _ => hSw p hp) ?_
      rotate_left
      · simp [Reads] at hw0
        go_simp
        try with_reducible rfl
      try go_simp
      refine takeU (i := 1) (v := ?_) rfl (by kernel_rfl) (fun _ _ _ h => h) (Or.inl ⟨by rfl, fun w0 hw0 => ?_⟩) (fun p hp _ => hSw p hp) ?_
      rotate_left
      · simp [Reads] at hw0
        go_simp
        try with_reducible rfl
      try go_simp
      refine takeU (i := 2) (v := ?_) rfl (by kernel_rfl) (fun _ _ _ h => h) (Or.inl ⟨by rfl, fun w0 hw0 => ?_⟩) (fun p hp _ => hSw p hp) ?_
      rotate_left
      · simp [Reads] at hw0
        go_simp
        try with_reducible rfl
      try go_simp
      refine takeU (i := 3) (v := ?_) rfl (by kernel_rfl) (fun _ _ _ h => h) (Or.inl ⟨by rfl, fun w0 hw0 => ?_⟩) (fun p hp _ => hSw p hp) ?_
      rotate_left
      · simp [Reads] at hw0
        go_simp
        try with_reducible rfl
      try go_simp
      refine takeU (i := 4) (v := ?_) rfl (by kernel_rfl) (fun _ _ _ h => h) (Or.inl ⟨by rfl, fun w0 hw0 => ?_⟩) (fun p hp _ => hSw p hp) ?_
      rotate_left
      · simp [Reads] at hw0
        go_simp
        try with_reducible rfl
      try go_simp
      clear hSw
      have hc5 := hB5.cell
      have hl5 := hB5.lt
      have hf5 := hB5.free
      have hk6 := hkd.set (p := ⟨sb, 2, none⟩) (.inl (by simp)) (.int .u64 (y.ix : Nat))
      have hB6 := hB5.put 2 (.int .u64 (y.ix : Nat))
      have hO6 := hO5.keep ((Keeps.refl [sb] w5).set (p := ⟨sb, 2, none⟩) (.inl (by simp)) (.int .u64 (y.ix : Nat))) (fun b hb => by simp; rintro rfl; exact hO5.off hB5 (by decide) hb)
      have H6 := Lib.hid (And.intro hk6 (And.intro hB6 hO6))
      clear hk6 hB6 hO6 hkd hB5 hO5
      refine oneU (i := 5) rfl (by kernel_rfl) (fun K hK => ?_)
      go_simp
      refine hK _ _ (fun q hq _ _ => HR0.out _ H6.out.1 q hq) ?_
      clear hK K hc5 hl5 hf5
      generalize World.setCell w5 _ _ = w6 at *
      have hSw := HR0.out _ H6.out.1
      try go_simp
      refine takeU (i := 6) (v := ?_) rfl (by kernel_rfl) (fun _ _ _ h => h) (Or.inl ⟨by rfl, fun w0 hw0 => ?_⟩) (fun p hp _ => hSw p hp) ?_
      rotate_left
      · simp [Reads] at hw0
        go_simp
        try with_reducible rfl
      try go_simp
      clear hSw
      have hc6 := H6.out.2.1.cell
      have hl6 := H6.out.2.1.lt
      have hf6 := H6.out.2.1.free
      have hk7 := H6.out.1.set (p := ⟨sb, 3, none⟩) (.inl (by simp)) (.int .u64 (y.tm : Nat))
      have hB7 := (H6.out.2.1.put 3 (.int .u64 (y.tm : Nat))).eq (cs' := Stp.cells ⟨x.s.ev (.drop y.ix y.tm), (some ⟨g, o + k * 5, none⟩), (x.lc - k)⟩) (by
        have e := HT.out.2.2.2.2
        show _ = ((#[.int .u64 (x.s.term : Nat), .int .i64 x.s.vote, .int .u64 (y.ix : Nat), .int .u64 (y.tm : Nat), .slice (some ⟨g, o + k * 5, none⟩) (x.s.ev (.drop y.ix y.tm)).es.length (x.lc - k)] : Array Value))
        rw [← e]
        simp)
      have hO7 := H6.out.2.2.keep ((Keeps.refl [sb] w6).set (p := ⟨sb, 3, none⟩) (.inl (by simp)) (.int .u64 (y.tm : Nat))) (fun b hb => by simp; rintro rfl; exact H6.out.2.2.off H6.out.2.1 (by decide) hb)
      have hk07 : Keeps [] w _ := HT.out.2.2.2.1.step hk7 (fun b hb => .inr (by simp at hb; subst hb; exact H0.out.2.2.2.1))
      have hA7 : Stp.At (w6.setCell ⟨sb, 3, none⟩ (.int .u64 (y.tm : Nat))) ⟨x.s.ev (.drop y.ix y.tm), (some ⟨g, o + k * 5, none⟩), (x.lc - k)⟩ := by
        show OwnO _ _ 5 (some ⟨g, o + k * 5, none⟩) (x.s.ev (.drop y.ix y.tm)).es.length (x.lc - k) (ents (x.s.ev (.drop y.ix y.tm)).es)
        rw [← HT.out.2.2.2.2, HKE.out]
        exact hO7
      have HZ := Lib.hid (And.intro hB7 (And.intro hk07 hA7))
      clear hk7 hB7 hO7 hk07 hA7
      refine oneU (i := 7) rfl (by kernel_rfl) (fun K hK => ?_)
      go_simp
      refine hK _ _ (fun q hq _ _ => HR0.out _ (H6.out.1.set (p := ⟨sb, 3, none⟩) (.inl (by simp)) (.int .u64 (y.tm : Nat))) q hq) ?_
      clear hK K hc6 hl6 hf6 HR0
      try go_simp
      refine doneU (by kernel_rfl) ?_
      generalize World.setCell w6 _ _ = w7 at *
      go_wp2_with (first
        | (refine wpList_load_agg rfl _ _ rfl sb 0 5 rfl 57 _ _ HZ.out.1 Tryz.underlying57 rfl Tryz.sizeSt (by simp) _ rfl ?_)
        | (refine wpList_slice1 rfl 58 57 _ rfl i z (.agg (Stp.cells ⟨x.s.ev (.drop y.ix y.tm), (some ⟨g, o + k * 5, none⟩), (x.lc - k)⟩)) 5 Tryz.underlying58 hi hz hsz rfl rfl (by omega) (by omega) ?_))
      go_ret2
      exact ds_one ⟨x.s.ev (.drop y.ix y.tm), (some ⟨g, o + k * 5, none⟩), (x.lc - k)⟩ (fun _ h => by rw [HLA.out]; exact h) HZ.out.2.1 HZ.out.2.2

end Go.Proofs.YtfgmbjdeimallaaGreatDoor
/- WalPlays: does: entries appended. -/

namespace Go.Proofs.YtfgmbjdeimallaaGreatDoor
open Go.RowKit Go.Lib

section
variable {P : Program} {o : Oper} {a : Act} {w : World}
theorem load_yieldsR (ty : TypeId) (x : Operand) (ho : o.op = .load ty x) (b off : Nat) (hx : a.eval x = .pointer (some ⟨b, off, none⟩))
    (vs : List Value) (hc : ∀ (j : Nat) v, vs[j]? = some v → w.cell? ⟨b, off + j, none⟩ = some v) (d : TypeDesc) (hu : P.underlying ty = some d)
    (hd : (match d with | .struct _ | .array _ _ => true | _ => false) = true) (hsz : (P.info? ty).map (·.size) = some vs.length) :
    (execOp a.eval o).run P w = .ok (.value (.agg vs.toArray)) w := by
  have hl := run_loadCells_list (P := P) (w := w) ⟨b, off, none⟩ vs (fun j v hv => by
    have hadd : (⟨b, off, none⟩ : Addr).add j = ⟨b, off + j, none⟩ := by unfold Addr.add; split <;> simp_all
    rw [hadd]
    exact hc j v hv)
  have hr : (loadVar ty ⟨b, off, none⟩).run P w = .ok (.agg vs.toArray) w := by
    cases hq : P.info? ty with
    | none => simp [hq] at hsz
    | some i =>
      have hi : i.size = vs.length := by simpa [hq] using hsz
      have hagg : (isAgg ty).run P w = .ok true w := by
        unfold isAgg
        rw [Sem.run_bind, run_underlying hu w]
        cases d <;> simp_all
      simp [loadVar, Sem.run_bind, hagg, sizeOf, typeInfo, hq, hi, hl]
  unfold execOp
  simp only [ho, hx, Instr.loadAt, Instr.sureAddr, Sem.run_bind, Sem.run_pure, Result.andThen_ok, hr]
end

theorem putR_any (v : Ent) (w : World) (h1 : v.term < 18446744073709551616) (h2 : v.client < 18446744073709551616) (h3 : v.seq < 18446744073709551616) :
    Calls Tryz.prog 43 #[.agg v.cells] w fun e w' => ∃ bo d n, e = .returned (.tuple #[.slice bo n d, .int .i64 (if entOk v then 0 else 20)]) ∧ Keeps [] w w' := by
  refine (putEntryR_any v.term v.kind v.client v.seq v.sql w h1 h2 h3).mono ?_
  rintro e w' ⟨bo, d, rfl, -, hk⟩
  exact ⟨bo, d, _, rfl, hk⟩
/-- the states of an append, entry by entry -/
def grows (s : Ws) (l : List Ent) (k : Nat) : List Ws := (List.range k).map fun j => { s with es := s.es ++ l.take (j + 1) }
theorem grows_succ (s : Ws) (l : List Ent) (k : Nat) : grows s l (k + 1) = grows s l k ++ [{ s with es := s.es ++ l.take (k + 1) }] := by simp [grows, List.range_succ]
def DaPost (w : World) (X : Option Addr) (s : Ws) (l : List Ent) (e : Ending) (w' : World) : Prop :=
  ((∀ v ∈ l, entOk v = true) → DsPost w X (grows s l l.length) 0 e w') ∧ ((∃ v ∈ l, entOk v = false) → DsPost w X [] 20 e w')
structure ApAt (w wr : World) (x : Stp) (y : Wp) (kk : Int) (sb yb j : Nat) (a : Option Addr) (c : Nat) (ns : List Stp) (la : Option Addr) (lc : Nat) : Prop where
  blk : Blk wr sb 57 #[.int .u64 (x.s.term : Nat), .int .i64 x.s.vote, .int .u64 (x.s.base : Nat), .int .u64 (x.s.bt : Nat), .slice la (x.s.es.length + j) lc]
  own : OwnO wr 65 5 la (x.s.es.length + j) lc (ents (x.s.es ++ y.l.take j))
  yblk : Blk wr yb 33 #[.int .i64 kk, .int .i64 y.n, .int .u64 (y.ix : Nat), .int .u64 (y.tm : Nat), .int .i64 y.vote, .slice y.la y.l.length y.lc, .slice y.ka y.keep.length y.kc]
  out : OwnO wr 57 5 a ns.length c (stps ns)
  ats : ∀ n ∈ ns, n.At wr ∧ ∀ b ∈ blks n.la, b ∈ blks x.la ∨ w.heap.size ≤ b
  map : ns.map (·.s) = grows x.s y.l j
  keeps : Keeps [] w wr
  oks : ∀ v ∈ y.l.take j, entOk v = true
  nlen : ns.length = j
  new : ∀ b ∈ blks a, w.heap.size ≤ b ∧ b ≠ sb
  labs : ∀ b ∈ blks la, b ∈ blks x.la ∨ w.heap.size ≤ b

set_option maxRecDepth 100000 in
set_option maxHeartbeats 8000000 in
theorem sdoes_app (kk : Int) (hkk : kk = 1 ∨ kk = 2 ∨ kk = 3) (x : Stp) (y : Wp) (w : World) (hA : x.At w) (hel : x.s.es.length ≤ 1000000) (hyl : y.l.length ≤ 1000) (hR : Re w y.la y.lc y.l) (he : ∀ e ∈ y.l, e.term < 18446744073709551616 ∧ e.client < 18446744073709551616 ∧ e.seq < 18446744073709551616) :
    Calls Tryz.prog 21 #[.agg #[.int .u64 (x.s.term : Nat), .int .i64 x.s.vote, .int .u64 (x.s.base : Nat), .int .u64 (x.s.bt : Nat), .slice x.la x.s.es.length x.lc], .agg #[.int .i64 kk, .int .i64 y.n, .int .u64 (y.ix : Nat), .int .u64 (y.tm : Nat), .int .i64 y.vote, .slice y.la y.l.length y.lc, .slice y.ka y.keep.length y.kc]] w (DaPost w x.la x.s y.l) := by
  obtain ⟨i, z, hi, hz, hsz, hby, hzc⟩ := infoSt
  obtain ⟨iE, zE, hiE, hzE, hsE, hbE, hcE⟩ := infoEn
  have HA := Lib.hid (And.intro hA (And.intro hR (And.intro hel (And.intro hyl he))))
  clear hA hR he
  have hX0 := Blk.fresh w 57 #[.int .u64 (x.s.term : Nat), .int .i64 x.s.vote, .int .u64 (x.s.base : Nat), .int .u64 (x.s.bt : Nat), .slice x.la x.s.es.length x.lc]
  have hk0 := (Keeps.refl [] w).alloc (.cells #[.int .u64 (x.s.term : Nat), .int .i64 x.s.vote, .int .u64 (x.s.base : Nat), .int .u64 (x.s.bt : Nat), .slice x.la x.s.es.length x.lc] 57)
  have hX1 := hX0.alloc (.cells #[.int .i64 kk, .int .i64 y.n, .int .u64 (y.ix : Nat), .int .u64 (y.tm : Nat), .int .i64 y.vote, .slice y.la y.l.length y.lc, .slice y.ka y.keep.length y.kc] 33)
  have hY1 := Blk.fresh (w.alloc (.cells #[.int .u64 (x.s.term : Nat), .int .i64 x.s.vote, .int .u64 (x.s.base : Nat), .int .u64 (x.s.bt : Nat), .slice x.la x.s.es.length x.lc] 57)) 33 #[.int .i64 kk, .int .i64 y.n, .int .u64 (y.ix : Nat), .int .u64 (y.tm : Nat), .int .i64 y.vote, .slice y.la y.l.length y.lc, .slice y.ka y.keep.length y.kc]
  have hk1 := hk0.alloc (.cells #[.int .i64 kk, .int .i64 y.n, .int .u64 (y.ix : Nat), .int .u64 (y.tm : Nat), .int .i64 y.vote, .slice y.la y.l.length y.lc, .slice y.ka y.keep.length y.kc] 33)
  obtain ⟨sb, hsb⟩ : ∃ sb, sb = w.heap.size := ⟨_, rfl⟩
  obtain ⟨yb, hyb⟩ : ∃ yb, yb = w.heap.size + 1 := ⟨_, rfl⟩
  rw [← hsb] at hX1
  rw [show (w.alloc (.cells #[.int .u64 (x.s.term : Nat), .int .i64 x.s.vote, .int .u64 (x.s.base : Nat), .int .u64 (x.s.bt : Nat), .slice x.la x.s.es.length x.lc] 57)).heap.size = w.heap.size + 1 by simp, ← hyb] at hY1
  have hss : w.heap.size ≤ sb ∧ w.heap.size ≤ yb ∧ sb ≠ yb := by omega
  have H0 := Lib.hid (And.intro hX1 (And.intro hY1 (And.intro hk1 hss)))
  clear hX0 hk0 hX1 hY1 hk1 hss
  go_enter Tryz.func21, Tryz.ntmps21
  go_upto_region 1 with (fail)
  rw [← hyb, ← hsb]
  clear hsb hyb
  generalize World.alloc (World.alloc w _) _ = w1 at *
  have hcS := H0.out.1.cell
  have hcY := H0.out.2.1.cell
  have HS1 := Lib.hid (show ApAt w w1 x y kk sb yb 0 none 0 [] x.la x.lc from ⟨by simpa using H0.out.1, by
    have h := HA.out.1.keep0 H0.out.2.2.1
    unfold Stp.At at h
    simpa using h, H0.out.2.1, OwnO.nil _ _ _, by simp, rfl, H0.out.2.2.1, by simp, rfl, by simp, fun _ h => .inl h⟩)
  have k0 : ¬ (kk = 0) := by omega
  go_upto_if 30 with (fail)
  go_cut [30] (fun v wx => v = .bool true ∧ wx = w1)
  case first =>
    rcases hkk with rfl | rfl | rfl
    · go_wp2_with fail
      go_meet
      exact ⟨rfl, rfl⟩
    · go_wp2_with fail
      go_meet
      exact ⟨rfl, rfl⟩
    · go_wp2_with fail
      go_meet
      exact ⟨rfl, rfl⟩
  case rest =>
  obtain ⟨rfl, rfl⟩ := hcut
  clear k0 hkk
  go_wp2_with fail
  go_loopw [6, 7] (fun v ix wr => ∃ (j : Nat) (a : Option Addr) (c : Nat) (ns : List Stp) (la : Option Addr) (lc : Nat), v = .slice a ns.length c ∧ ix = .int .i64 (j : Int) ∧ j ≤ y.l.length ∧ ApAt w wr x y kk sb yb j a c ns la lc) (fun _ ix _ => y.l.length - (intOf ix).toNat)
  case atStart => exact ⟨0, none, 0, [], x.la, x.lc, rfl, rfl, Nat.zero_le _, HS1.out⟩
  case round =>
    obtain ⟨j, a, c, ns, la, lc, rfl, rfl, hj, hrel⟩ := hrel
    have HR1 := Lib.hid hrel
    clear hrel hcS hcY HS1
    have hcS := HR1.out.blk.cell
    have hcY := HR1.out.yblk.cell
    rcases (by omega : j < y.l.length ∨ j = y.l.length) with hjl | hje
    rotate_left
    · have n1 : ¬ ((j : Int) < (y.l.length : Int)) := by omega
      have FIN : Hid (DaPost w x.la x.s y.l (.returned (.tuple #[.slice a ns.length c, .int .i64 0])) wr) := Lib.hid (by
        subst hje
        refine ⟨fun _ => ⟨a, c, ns, rfl, HR1.out.map, HR1.out.out.sl (stps_one _), HR1.out.ats, HR1.out.keeps, fun ad ha => (HR1.out.new ad.block (by rw [ha]; simp)).1⟩, fun ⟨v, hv, hb⟩ => ?_⟩
        have := HR1.out.oks v (by rw [List.take_length]; exact hv)
        rw [hb] at this
        cases this)
      clear hje
      go_wp2_with fail
      go_ret2
      exact FIN.out
    have n1 : (j : Int) < (y.l.length : Int) := by omega
    have s1 : IntKind.i64.wrap ((j : Int) + 1) = j + 1 := IntWalk.i64_in _ (by have := HA.out.2.2.2.1; omega)
    have hv := List.getElem?_eq_getElem hjl
    have hmem := List.getElem_mem hjl
    generalize y.l[j] = v at hv hmem
    obtain ⟨hv1, hv2, hv3⟩ := HA.out.2.2.2.2 v hmem
    have hSl := HA.out.2.1.keep0 HR1.out.keeps
    obtain ⟨eb, eo, hea⟩ := hSl.at (by have := hSl.cap; omega)
    rw [hea] at hSl hcY
    have HRUN := Lib.hid (And.intro (fun W (hk : Keeps [] wr W) => ent_run (hSl.keep0 hk) hv) (And.intro hv hea))
    have HRU := Lib.hid (ent_run hSl hv)
    have hP := putR_any v wr hv1 hv2 hv3
    cases hok : entOk v with
    | false =>
      rw [hok, if_neg (by simp)] at hP
      have HP := Lib.hid hP
      have hbad : ∃ v ∈ y.l, entOk v = false := ⟨v, hmem, hok⟩
      have HBAD := Lib.hid hbad
      clear hP hSl hv hmem hv1 hv2 hv3 hok hbad hea
      go_wp2_with (refine wpList_load_run rfl _ _ rfl eb (eo + j * 5) rfl v.cells.toList HRU.out _ Tryz.underlying65 rfl Tryz.sizeE ?_)
      refine HP.out.mono ?_
      rintro e w2 ⟨bo, d, pl, rfl, hk2⟩
      have FIN : Hid (DaPost w x.la x.s y.l (.returned (.tuple #[.slice none 0 0, .int .i64 20])) w2) := Lib.hid ⟨(fun h => by
        obtain ⟨v, h1, h2⟩ := HBAD.out
        rw [h v h1] at h2
        cases h2), fun _ => ds_none 20 (HR1.out.keeps.trans hk2)⟩
      clear hk2
      go_wp2_with fail
      go_ret2
      exact FIN.out
    | true =>
    rw [hok, if_pos rfl] at hP
    have HP := Lib.hid hP
    have HOK := Lib.hid hok
    clear hP hSl hv hmem hv1 hv2 hv3 hok hea
    go_upto_region 15 with (refine wpList_load_run rfl _ _ rfl eb (eo + j * 5) rfl v.cells.toList HRU.out _ Tryz.underlying65 rfl Tryz.sizeE ?_)
    refine HP.out.mono ?_
    rintro e w2 ⟨bo, d, pl, rfl, hk2⟩
    have HK2 := Lib.hid hk2
    clear hk2 hcS hcY HRU
    go_upto_region 17 with (fail)
    obtain ⟨n, hn⟩ : ∃ n, n = x.s.es.length + j := ⟨_, rfl⟩
    have hBa := HR1.out.blk
    have hOa := HR1.out.own
    have hYa := HR1.out.yblk
    rw [← hn] at hBa hOa
    rw [HRUN.out.2.2] at hYa
    have hR0 : ∀ W : World, Keeps [] w2 W → ∀ q ∈ [((1 : Nat), fun w0 : World => w0.cell? ⟨sb, 4, none⟩ = some (.slice la n lc)), ((3 : Nat), fun w0 : World => w0.cell? ⟨sb, 4, none⟩ = some (.slice la n lc)), ((6 : Nat), fun w0 : World => w0.cell? ⟨sb, 4, none⟩ = some (.slice la n lc)), ((10 : Nat), fun w0 : World => w0.cell? ⟨yb, 5, none⟩ = some (.slice (some ⟨eb, eo, none⟩) y.l.length y.lc)), ((13 : Nat), fun w0 : World => ∀ (i : Nat) u, v.cells.toList[i]? = some u → w0.cell? ⟨eb, eo + j * 5 + i, none⟩ = some u)], q.2 W := fun W hW q hq => by
      have hk := HK2.out.trans hW
      have hS := hBa.keep hk (by simp)
      have hY := hYa.keep hk (by simp)
      simp only [List.mem_cons, List.not_mem_nil, or_false] at hq
      rcases hq with rfl | rfl | rfl | rfl | rfl
      · exact hS.cell 4
      · exact hS.cell 4
      · exact hS.cell 4
      · exact hY.cell 5
      · exact HRUN.out.1 W hk
    have HR0 := Lib.hid hR0
    have hkd := (Keeps.refl [] w2).drew
    have hSw := HR0.out _ hkd
    have HKD := Lib.hid hkd
    have hcp := hOa.cap
    have hcm := hOa.most
    unfold maxLen at hcm
    have m1 : (n : Int) ≤ (lc : Int) := by omega
    have m2 : (0 : Int) ≤ (n : Int) := by omega
    have hnn : n ≤ 1001000 := by have := HA.out.2.2.1; have := HA.out.2.2.2.1; omega
    have HN := Lib.hid (And.intro hn (And.intro hBa (And.intro hOa hYa)))
    clear hR0 hkd hn hBa hOa hYa
    refine startU [((1 : Nat), fun w0 : World => w0.cell? ⟨sb, 4, none⟩ = some (.slice la n lc)), ((3 : Nat), fun w0 : World => w0.cell? ⟨sb, 4, none⟩ = some (.slice la n lc)), ((6 : Nat), fun w0 : World => w0.cell? ⟨sb, 4, none⟩ = some (.slice la n lc)), ((10 : Nat), fun w0 : World => w0.cell? ⟨yb, 5, none⟩ = some (.slice (some ⟨eb, eo, none⟩) y.l.length y.lc)), ((13 : Nat), fun w0 : World => ∀ (i : Nat) u, v.cells.toList[i]? = some u → w0.cell? ⟨eb, eo + j * 5 + i, none⟩ = some u)] (by kernel_rfl) ?_
    generalize World.drew w2 = w3 at *
    refine takeU (i := 0) (v := ?_) rfl (by kernel_rfl) (fun _ _ _ h => h) (Or.inl ⟨by rfl, fun w0 hw0 => ?_⟩) (fun p hp _ => hSw p hp) ?_
    rotate_left
    · simp [Reads] at hw0
      go_simp
      try with_reducible rfl
    try go_simp
    refine takeU (i := 1) (v := ?_) rfl (by kernel_rfl) (fun _ _ _ h => h) (Or.inl ⟨by rfl, fun w0 hw0 => ?_⟩) (fun p hp _ => hSw p hp) ?_
    rotate_left
    · simp [Reads] at hw0
      go_simp
      try with_reducible rfl
    try go_simp
    refine takeU (i := 2) (v := ?_) rfl (by kernel_rfl) (fun _ _ _ h => h) (Or.inl ⟨by rfl, fun w0 hw0 => ?_⟩) (fun p hp _ => hSw p hp) ?_
    rotate_left
    · simp [Reads] at hw0
      go_simp
      try with_reducible rfl
    try go_simp
    refine takeU (i := 3) (v := ?_) rfl (by kernel_rfl) (fun _ _ _ h => h) (Or.inl ⟨by rfl, fun w0 hw0 => ?_⟩) (fun p hp _ => hSw p hp) ?_
    rotate_left
    · simp [Reads] at hw0
      go_simp
      try with_reducible rfl
    try go_simp
    refine takeU (i := 4) (v := ?_) rfl (by kernel_rfl) (fun _ _ _ h => h) (Or.inl ⟨by rfl, fun w0 hw0 => ?_⟩) (fun p hp _ => hSw p hp) ?_
    rotate_left
    · simp [Reads] at hw0
      go_simp
      try with_reducible rfl
    try go_simp
    refine takeU (i := 5) (v := ?_) rfl (by kernel_rfl) (fun _ _ _ h => h) (Or.inl ⟨by rfl, fun w0 hw0 => ?_⟩) (fun p hp _ => hSw p hp) ?_
    rotate_left
    · simp [Reads] at hw0
      go_simp
      try with_reducible rfl
    try go_simp
    refine takeU (i := 6) (v := ?_) rfl (by kernel_rfl) (fun _ _ _ h => h) (Or.inl ⟨by rfl, fun w0 hw0 => ?_⟩) (fun p hp _ => hSw p hp) ?_
    rotate_left
    · simp [Reads] at hw0
      go_simp
      try with_reducible rfl
    try go_simp
    refine takeU (i := 7) (v := ?_) rfl (by kernel_rfl) (fun _ _ _ h => h) (Or.inl ⟨by rfl, fun w0 hw0 => ?_⟩) (fun p hp _ => hSw p hp) ?_
    rotate_left
    · simp [Reads] at hw0
      go_simp
      try with_reducible rfl
    try go_simp
    refine takeU (i := 8) (v := ?_) rfl (by kernel_rfl) (fun _ _ _ h => h) (Or.inl ⟨by rfl, fun w0 hw0 => ?_⟩) (fun p hp _ => hSw p hp) ?_
    rotate_left
    · simp [Reads] at hw0
      go_simp
      try with_reducible rfl
    try go_simp
    refine takeU (i := 9) (v := ?_) rfl (by kernel_rfl) (fun _ _ _ h => h) (Or.inl ⟨by rfl, fun w0 hw0 => ?_⟩) (fun p hp _ => hSw p hp) ?_
    rotate_left
    · simp [Reads] at hw0
      go_simp
      try with_reducible rfl
    try go_simp
    refine takeU (i := 10) (v := ?_) rfl (by kernel_rfl) (fun _ _ _ h => h) (Or.inl ⟨by rfl, fun w0 hw0 => ?_⟩) (fun p hp _ => hSw p hp) ?_
    rotate_left
    · simp [Reads] at hw0
      go_simp
      try with_reducible rfl
    try go_simp
    refine takeU (i := 11) (v := ?_) rfl (by kernel_rfl) (fun _ _ _ h => h) (Or.inl ⟨by rfl, fun w0 hw0 => ?_⟩) (fun p hp _ => hSw p hp) ?_
    rotate_left
    · simp [Reads] at hw0
      go_simp
      try with_reducible rfl
    try go_simp
    refine takeU (i := 12) (v := ?_) rfl (by kernel_rfl) (fun _ _ _ h => h) (Or.inl ⟨by rfl, fun w0 hw0 => ?_⟩) (fun p hp _ => hSw p hp) ?_
    rotate_left
    · simp [Reads] at hw0
      go_simp
      try with_reducible rfl
    try go_simp
    refine takeU (i := 13) (v := .agg v.cells) rfl (by kernel_rfl) (fun _ _ _ h => h) (Or.inl ⟨by rfl, fun w0 hw0 => ?_⟩) (fun p hp _ => hSw p hp) ?_
    · simp only [Reads, List.mem_cons, List.not_mem_nil, or_false, forall_eq_or_imp, forall_eq] at hw0
      exact load_yieldsR 65 (.tmp 64) rfl eb (eo + j * 5) rfl v.cells.toList (hw0.2.2.2.2 trivial) _ Tryz.underlying65 rfl Tryz.sizeE
    try go_simp
    clear hSw
    refine oneU (i := 14) rfl (by kernel_rfl) (fun K hK => ?_)
    refine step_slice1 rfl 22 65 _ rfl iE zE (.agg v.cells) 5 Tryz.underlying22 hiE hzE hsE rfl rfl (by omega) (by omega) ?_
    have hB4 := Blk.fresh w3 65 v.cells
    have hkA := HKD.out.alloc (.cells v.cells 65)
    have hRl : Re (w3.alloc (.cells v.cells 65)) (some ⟨w3.heap.size, 0, none⟩) 1 [v] := re_lit hB4 (by simp [ents]) (by simp)
    refine hK _ _ (fun q hq _ _ => HR0.out _ hkA q hq) ?_
    have HA4 := Lib.hid (And.intro hkA hRl)
    clear hK K hB4 hkA hRl
    change wpAnyU _ _ _ _ _ _ _ _ (w3.alloc (.cells v.cells 65))
    generalize w3.heap.size = lb at *
    generalize World.alloc w3 _ = w4 at *
    try go_simp
    have hOd := (HN.out.2.2.1.keep0 (HK2.out.trans HA4.out.1)).take (k := n) (c' := n) (Nat.le_refl _) (Nat.le_refl _) hcp
    rw [ents_take, List.take_of_length_le (by rw [HN.out.1]; simp; omega)] at hOd
    refine oneU (i := 15) rfl (by kernel_rfl) (fun K hK => ?_)
    refine step_append_bo rfl _ _ 22 22 rfl 65 iE zE 5 48 Tryz.underlying22 hiE hzE hsE hbE hcE la _ n _ rfl hOd _ rfl 1 _ (HA4.out.2.src Tryz.underlying22) (by unfold maxLen; omega) (by omega) ?_
    intro a6 c6 w6 hO6 hk6 hb6 h06
    have hk46 := h06 (by omega)
    have hk26 := HA4.out.1.trans hk46
    refine hK _ _ (fun q hq _ _ => HR0.out _ hk26 q hq) ?_
    have hSw := HR0.out _ hk26
    have hlab : ∀ b ∈ blks a6, b ∈ blks x.la ∨ w.heap.size ≤ b := fun b hb => by
      rcases hb6 b hb with hb | hb
      · exact HR1.out.labs b hb
      · have h1 := ((HR1.out.keeps.trans HK2.out).trans HA4.out.1).size
        exact .inr (Nat.le_trans h1 hb)
    have HLB := Lib.hid hlab
    have H6 := Lib.hid (And.intro hO6 hk26)
    clear hlab
    clear hK K hOd hO6 hk6 hb6 h06 hk46 hk26
    try go_simp
    refine takeU (i := 16) (v := ?_) rfl (by kernel_rfl) (fun _ _ _ h => h) (Or.inl ⟨by rfl, fun w0 hw0 => ?_⟩) (fun p hp _ => hSw p hp) ?_
    rotate_left
    · simp [Reads] at hw0
      go_simp
      try with_reducible rfl
    try go_simp
    clear hSw
    have hB6 := HN.out.2.1.keep (HK2.out.trans H6.out.2) (by simp)
    have hc6 := hB6.cell
    have hl6 := hB6.lt
    have hf6 := hB6.free
    clear hB6
    refine oneU (i := 17) rfl (by kernel_rfl) (fun K hK => ?_)
    go_simp
    refine hK _ _ (fun p hp h1 _ => by simp only [List.mem_cons, List.not_mem_nil, or_false] at hp; rcases hp with rfl | rfl | rfl | rfl | rfl <;> exact waits_absurd h1 (by kernel_rfl)) ?_
    clear hK K hc6 hl6 hf6
    refine doneU (by kernel_rfl) ?_
    obtain ⟨xx, hxx⟩ : ∃ xx : Stp, xx = ⟨{ x.s with es := x.s.es ++ y.l.take (j + 1) }, a6, c6⟩ := ⟨_, rfl⟩
    have hxl : xx.s.es.length = n + 1 := by rw [hxx]; simp [HN.out.1]; omega
    have htk : y.l.take (j + 1) = y.l.take j ++ [v] := by
      obtain ⟨h1, h2⟩ := List.getElem?_eq_some_iff.1 HRUN.out.2.1
      rw [List.take_add_one, List.getElem?_eq_getElem h1, h2]
      rfl
    have H7 : Hid (Keeps [sb] w2 (w6.setCell ⟨sb, 4, none⟩ (.slice a6 (n + 1) c6)) ∧ Blk (w6.setCell ⟨sb, 4, none⟩ (.slice a6 (n + 1) c6)) sb 57 (Stp.cells xx) ∧ xx.At (w6.setCell ⟨sb, 4, none⟩ (.slice a6 (n + 1) c6))) := Lib.hid (by
      have hB6 := HN.out.2.1.keep (HK2.out.trans H6.out.2) (by simp)
      have hks := (Keeps.refl [sb] w6).set (p := ⟨sb, 4, none⟩) (.inl (by simp)) (.slice a6 (n + 1) c6)
      refine ⟨H6.out.2.of_nil.trans hks, (hB6.put 4 (.slice a6 (n + 1) c6)).eq ?_, ?_⟩
      · have e : Stp.cells xx = #[.int .u64 (x.s.term : Nat), .int .i64 x.s.vote, .int .u64 (x.s.base : Nat), .int .u64 (x.s.bt : Nat), .slice a6 xx.s.es.length c6] := by rw [hxx]
        rw [e, hxl]
        simp
      · show OwnO _ _ 5 xx.la xx.s.es.length xx.lc (ents xx.s.es)
        rw [hxl, show xx.la = a6 by rw [hxx], show xx.lc = c6 by rw [hxx], show ents xx.s.es = ents (x.s.es ++ y.l.take j) ++ ents [v] by rw [hxx, ← ents_append]; simp [htk]]
        exact H6.out.1.keep hks (fun b hb => by simp; rintro rfl; exact H6.out.1.off hB6 (by decide) hb))
    generalize World.setCell w6 _ _ = w7 at *
    have hkA7 := (Keeps.refl [] w7).alloc (.cells (Stp.cells xx) 57)
    have hS8 : Sl (w7.alloc (.cells (Stp.cells xx) 57)) 5 (some ⟨w7.heap.size, 0, none⟩) 1 1 (stps [xx]) := by
      have h1 := Sl.of_blk (n := 1) (sz := 5) (Blk.fresh w7 57 xx.cells) rfl (by decide) (by
        have := stps_one [xx]
        simpa [stps] using this)
      have e : stps [xx] = xx.cells.toList := by simp [stps]
      rw [e]
      exact h1
    have hk27 : Keeps [sb] wr w7 := HK2.out.of_nil.trans H7.out.1
    have hBr := HR1.out.blk
    have hOut7 := HR1.out.out.keep hk27 (fun b hb => by simp; exact (HR1.out.new b hb).2)
    have hats7 : ∀ m ∈ ns, m.At w7 := fun m hm => by
      have h1 := (HR1.out.ats m hm).1
      exact OwnO.keep h1 hk27 (fun b hb => by simp; rintro rfl; exact OwnO.off h1 hBr (by decide) hb)
    have hkw7 : Keeps [] w w7 := HR1.out.keeps.step hk27 (fun b hb => .inr (by simp at hb; subst hb; exact H0.out.2.2.2.1))
    have hY7 := HR1.out.yblk.keep hk27 (by simp; exact fun h => H0.out.2.2.2.2.2 h.symm)
    have hsl7 := H7.out.2.1.lt
    have H8 := Lib.hid (And.intro (hOut7.keep0 hkA7) (And.intro hS8 (And.intro (fun m hm => (hats7 m hm).keep0 hkA7) (And.intro (H7.out.2.2.keep0 hkA7) (And.intro (hkw7.trans hkA7) (And.intro (hY7.keep hkA7 (by simp)) (And.intro (H7.out.2.1.keep hkA7 (by simp)) hsl7)))))))
    have hnsl : ns.length ≤ 1000 := by have := HR1.out.nlen; have := HA.out.2.2.2.1; omega
    clear hkA7 hS8 hk27 hBr hOut7 hats7 hkw7 hY7 hsl7
    go_upto_region 13 with (first
      | (refine wpList_load_agg rfl _ _ rfl sb 0 5 rfl 57 _ _ H7.out.2.1 Tryz.underlying57 rfl Tryz.sizeSt (by simp) _ rfl ?_)
      | (refine wpList_slice1 rfl 58 57 _ rfl i z (.agg (Stp.cells xx)) 5 Tryz.underlying58 hi hz hsz rfl rfl (by omega) (by omega) ?_)
      | (at_builtin; refine wpList_append_bo _ rfl _ _ 58 58 rfl 57 i z 5 56 Tryz.underlying58 hi hz hsz hby hzc a _ c _ rfl H8.out.1 _ rfl 1 _ (H8.out.2.1.src Tryz.underlying58) (by unfold maxLen; omega) (by omega) ?_; intro a9 c9 w9 hO9 hk9 hb9 h09))
    have H9 : Hid (ApAt w w9 x y kk sb yb (j + 1) a9 c9 (ns ++ [xx]) a6 c6) := Lib.hid (by
      obtain ⟨h1, h2, h3, h4, h5, h6, h7, h8⟩ := H8.out
      have hsa : sb ∉ blks a := fun hb => (HR1.out.new sb hb).2 rfl
      have hyoff : yb ∉ blks a := h1.off h6 (by decide)
      have hat : ∀ m : Stp, m.At (w7.alloc (.cells (Stp.cells xx) 57)) → m.At w9 := fun m hm => OwnO.keep hm hk9 (fun b hb hb2 => by
        obtain ⟨cs, hcs⟩ := h1.kind b hb2
        exact OwnO.off hm hcs (by decide) hb)
      refine ⟨?_, ?_, h6.keep hk9 hyoff, ?_, ?_, ?_, h5.step hk9 (fun b hb => .inr (HR1.out.new b hb).1), ?_, by simp [HR1.out.nlen], ?_, HLB.out⟩
      · refine (h7.keep hk9 hsa).eq ?_
        have e : Stp.cells xx = #[.int .u64 (x.s.term : Nat), .int .i64 x.s.vote, .int .u64 (x.s.base : Nat), .int .u64 (x.s.bt : Nat), .slice a6 xx.s.es.length c6] := by rw [hxx]
        rw [e, hxl, HN.out.1, Nat.add_assoc]
      · have := hat xx h4
        unfold Stp.At at this
        rw [hxl, show xx.la = a6 by rw [hxx], show xx.lc = c6 by rw [hxx], show xx.s.es = x.s.es ++ y.l.take (j + 1) by rw [hxx], HN.out.1, Nat.add_assoc] at this
        exact this
      · rw [List.length_append, stps_append]
        exact hO9
      · intro m hm
        rcases List.mem_append.1 hm with hm | hm
        · exact ⟨hat m (h3 m hm), (HR1.out.ats m hm).2⟩
        · simp at hm
          subst hm
          exact ⟨hat _ h4, by rw [hxx]; exact HLB.out⟩
      · rw [List.map_append, HR1.out.map, grows_succ, hxx]
        rfl
      · intro u hu
        rw [htk] at hu
        rcases List.mem_append.1 hu with hu | hu
        · exact HR1.out.oks u hu
        · simp at hu
          subst hu
          exact HOK.out
      · intro b hb
        rcases hb9 b hb with hb | hb
        · exact HR1.out.new b hb
        · have h10 := h5.size
          have h11 := h7.lt
          have hb' : (w7.alloc (.cells (Stp.cells xx) 57)).heap.size ≤ b := hb
          omega)
    clear hO9 hk9 hb9 h09 hxl htk hxx
    go_wp2_with fail
    go_roundw
    case rel => exact ⟨_, _, _, _, ⟨j + 1, a9, c9, ns ++ [xx], by simp, by simp, by omega, a6, c6, H9.out⟩, rfl, rfl, rfl, rfl⟩
    case measure => simp [intOf]; omega
end Go.Proofs.YtfgmbjdeimallaaGreatDoor
