/- A net: what is in flight; New, Len, full, Send. -/
import Derived.Test.YtllcidpmdmacjaaDoorWme
import Derived.Test.YtllcidpmdmacjaaDoorErr8
import Derived.Test.YtllcidpmdmacjaaDoorErr9
import Derived.Test.YtllcidpmdmacjaaDoorWin3

namespace Go.Proofs.YtllcidpmdmacjaaDoor
open Go.RowKit Go.Lib

/-- a message in flight -/
structure Fl where
  a : Option Addr
  c : Nat
  b : List UInt8
  src : Int
  dst : Int
abbrev Fl.cells (f : Fl) : Array Value := #[.slice f.a f.b.length f.c, .int .i64 f.src, .int .i64 f.dst]
def fls (l : List Fl) : List Value := (l.map fun f => f.cells.toList).flatten
theorem fls_append (l m : List Fl) : fls (l ++ m) = fls l ++ fls m := by simp [fls]
theorem fls_length (l : List Fl) : (fls l).length = l.length * 3 := flat_length _ 3 (fun _ => rfl) l
theorem fls_one (l : List Fl) : ∀ u ∈ fls l, u.oneCell' = true := by
  intro u hu
  unfold fls at hu
  rw [List.mem_flatten] at hu
  obtain ⟨x, hx, hu⟩ := hu
  obtain ⟨f, _, rfl⟩ := List.mem_map.1 hx
  simp at hu
  rcases hu with rfl | rfl | rfl <;> rfl
theorem infoF : ∃ i z, Tryd.prog.info? 62 = some i ∧ i.zero = some z ∧ i.size = 3 ∧ i.bytes = 40 ∧ z.cells.size = 3 := by
  have h : (Tryd.prog.info? 62).map (fun i => (i.size, i.bytes, (i.zero.map fun z => z.cells.size))) = some (3, 40, some 3) := by kernel_rfl
  obtain ⟨i, hi, hx⟩ := Option.map_eq_some_iff.1 h
  simp only [Prod.mk.injEq] at hx
  obtain ⟨z, hz, hc⟩ := Option.map_eq_some_iff.1 hx.2.2
  exact ⟨i, z, hi, hz, hx.1, hx.2.1, hc⟩
theorem built_F (a : Option Addr) (n c : Nat) (x y : Int) : Tryd.prog.built 62 [(0, .slice a n c), (1, .int .i64 x), (2, .int .i64 y)] = some #[.slice a n c, .int .i64 x, .int .i64 y] := by kernel_rfl

/-- a net at nb, its list at ao: all of it made since N -/
structure NetAt (w : World) (N nb : Nat) (ao : Option Addr) (c : Nat) (fs : List Fl) : Prop where
  bn : Blk w nb 54 #[.slice ao fs.length c]
  ol : w.ownsRow N 62 3 (.slice ao fs.length c) fs.length (fls fs)
  ob : ∀ f ∈ fs, Own w N f.a f.c f.b
  ge : N ≤ nb
  le : fs.length ≤ 4096
  nw : N ≤ w.heap.size
section
variable {w w' : World} {N nb : Nat} {ao : Option Addr} {c : Nat} {fs : List Fl}
theorem NetAt.keep0 (h : NetAt w N nb ao c fs) (hk : Keeps [] w w') : NetAt w' N nb ao c fs :=
  ⟨h.bn.keep hk (by simp), ownsRow_keep h.ol hk (by simp), fun f hf => (h.ob f hf).keep0 hk, h.ge, h.le, Nat.le_trans h.nw hk.size⟩
theorem NetAt.ne (h : NetAt w N nb ao c fs) {b : Nat} {t : TypeId} {cs : Array Value} (hB : Blk w b t cs) (h1 : t ≠ 54) (h2 : t ≠ 62) : b ∉ nb :: blks ao := by
  intro hx
  rcases List.mem_cons.1 hx with rfl | hx
  · exact absurd rfl (hB.ne h.bn h1)
  · exact ownsRow_ne h.ol hB (fun e => h2 e.symm) b hx rfl
theorem NetAt.old (h : NetAt w N nb ao c fs) : ∀ x ∈ nb :: blks ao, N ≤ x := by
  intro x hx
  rcases List.mem_cons.1 hx with rfl | hx
  · exact h.ge
  · exact (ownsRow_lt h.ol x hx).1
theorem NetAt.keepB (h : NetAt w N nb ao c fs) {b : Nat} {t : TypeId} {cs : Array Value} (hB : Blk w b t cs) (h1 : t ≠ 54) (h2 : t ≠ 62) (h3 : t ≠ 5) (hk : Keeps [b] w w') : NetAt w' N nb ao c fs :=
  ⟨h.bn.keep hk (by simp; rintro rfl; exact absurd rfl (hB.ne h.bn h1)), own_of_one h.ol hB h2 hk, fun f hf => own_of_one (h.ob f hf) hB h3 hk, h.ge, h.le, Nat.le_trans h.nw hk.size⟩

theorem nlen (h : NetAt w N nb ao c fs) : Calls Tryd.prog 12 #[.pointer (some ⟨nb, 0, none⟩)] w fun e w' => e = .returned (.int .i64 (fs.length : Int)) ∧ w' = w := by
  have hc := h.bn.cell
  have hl := h.bn.lt
  go_enter Tryd.func12, Tryd.ntmps12
  go_wp2
  go_ret
  exact ⟨rfl, rfl⟩
theorem nfull_ok (h : NetAt w N nb ao c fs) (hf : fs.length < 4096) : Calls Tryd.prog 16 #[.pointer (some ⟨nb, 0, none⟩)] w fun e w' => e = .returned .nilIface ∧ w' = w := by
  have hc := h.bn.cell
  have hl := h.bn.lt
  have n1 : ¬ ((4096 : Int) ≤ (fs.length : Int)) := by omega
  have n2 : (fs.length : Int) < 4096 := by omega
  go_enter Tryd.func16, Tryd.ntmps16
  go_wp2
  go_ret
  exact ⟨rfl, rfl⟩
theorem nfull_no (h : NetAt w N nb ao c fs) (hf : fs.length = 4096) : Calls Tryd.prog 16 #[.pointer (some ⟨nb, 0, none⟩)] w fun e w' => ∃ g, e = .returned (.iface 57 (.pointer (some ⟨g, 0, none⟩))) ∧ ErrIs w' (.iface 57 (.pointer (some ⟨g, 0, none⟩))) 31 ∧ Keeps [] w w' := by
  have hc := h.bn.cell
  have hl := h.bn.lt
  rw [hf] at hc
  go_enter Tryd.func16, Tryd.ntmps16
  go_wp2
  go_ret
  exact ⟨_, rfl, .inr ⟨_, _, rfl, Blk.fresh _ _ _⟩, (Keeps.refl [] w).alloc _⟩
theorem nnew (w : World) : Calls Tryd.prog 5 #[] w fun e w' => ∃ nb, e = .returned (.pointer (some ⟨nb, 0, none⟩)) ∧ NetAt w' w.heap.size nb none 0 [] ∧ Keeps [] w w' := by
  go_enter Tryd.func5, Tryd.ntmps5
  go_wp2
  go_ret
  exact ⟨_, rfl, ⟨Blk.fresh _ _ _, World.ownsRow_nil _ _ _ _, fun f hf => by simp at hf, Nat.le_refl _, by simp, by simp⟩, (Keeps.refl [] w).alloc _⟩
end

theorem rds3 {W : World} {F G H : World → Prop} {i j k : Nat} (h1 : F W) (h2 : G W) (h3 : H W) : ∀ p ∈ [(i, F), (j, G), (k, H)], p.2 W := by
  intro p hp
  simp only [List.mem_cons, List.not_mem_nil, or_false] at hp
  rcases hp with rfl | rfl | rfl
  · exact h1
  · exact h2
  · exact h3

set_option maxRecDepth 100000 in
set_option maxHeartbeats 4000000 in
theorem nsend (N nb : Nat) (ao : Option Addr) (c : Nat) (fs : List Fl) (d : Md) (a : Ma) (w : World) (hN : NetAt w N nb ao c fs) (hM : MsgAt w d a) (hd : d.Nums) (hmay : d.may = true) (hf : fs.length < 4096) :
    Calls Tryd.prog 6 #[.pointer (some ⟨nb, 0, none⟩), .agg (msgCells d a)] w fun e w' => ∃ ao' c' bo bc, e = .returned .nilIface ∧ NetAt w' N nb ao' c' (fs ++ [⟨bo, bc, putMd d, d.src, d.dst⟩]) ∧ (∀ x ∈ blks ao', x ∈ blks ao ∨ w.heap.size ≤ x) ∧ Keeps (nb :: blks ao) w w' := by
  obtain ⟨i, z, hi, hz, hsz, hby, hzc⟩ := infoF
  have P := fun W (hW : MsgAt W d a) => putMsg_any d a W hW hd
  obtain ⟨cs, hcs⟩ : ∃ cs, cs = msgCells d a := ⟨_, rfl⟩
  have hcsz : cs.size = 23 := by rw [hcs]; rfl
  have hc1 : cs[1]? = some (.int .i64 d.src) := by rw [hcs]; simp [msgCells]
  have hc2 : cs[2]? = some (.int .i64 d.dst) := by rw [hcs]; simp [msgCells]
  rw [← hcs] at P
  rw [← hcs]
  simp only [hmay, if_true] at P
  obtain ⟨src, hsrc⟩ : ∃ src, src = d.src := ⟨_, rfl⟩
  obtain ⟨dst, hdst⟩ : ∃ dst, dst = d.dst := ⟨_, rfl⟩
  rw [← hsrc] at hc1 ⊢
  rw [← hdst] at hc2 ⊢
  generalize hbs : putMd d = bs at *
  have hB := Blk.fresh w 43 cs
  have hk := (Keeps.refl [] w).alloc (.cells cs 43)
  have hN1 := hN.keep0 hk
  have HP := Lib.hid (P _ (hM.keep hk))
  clear P hM hN hcs hsrc hdst hbs hmay hd
  go_enter Tryd.func6, Tryd.ntmps6
  go_upto_region 1 with (fail)
  generalize World.alloc w _ = w1 at *
  generalize hmb : w.heap.size = mb at *
  go_wp2_with (refine wpList_load_agg rfl 43 _ rfl mb 0 23 ?_ 43 cs _ hB Tryd.underlying43 rfl Tryd.sizeM ?_ cs ?_ ?_; rfl; omega; exact take23 cs hcsz)
  refine HP.out.mono ?_
  rintro e w2 ⟨bo, bc, ev, rfl, hO, hE, hk2⟩
  obtain rfl := hE.zero.2 rfl
  have hB2 := hB.keep hk2 (by simp)
  have hN2 := hN1.keep0 hk2
  have hO2 := Own.older hO (show N ≤ w1.heap.size from hN1.nw)
  have hk02 := hk.trans hk2
  clear hB hN1 hk hk2 hO hE HP
  go_wp2_with fail
  refine (nfull_ok hN2 hf).mono ?_
  rintro e w' ⟨rfl, hw⟩
  obtain rfl := hw.symm
  clear hw
  go_upto_region 7 with (fail)
  have e1 : ∀ W, Blk W mb 43 cs → W.cell? ⟨mb, 1, none⟩ = some (.int .i64 src) := fun W h => (h.cell 1).trans hc1
  have e2 : ∀ W, Blk W mb 43 cs → W.cell? ⟨mb, 2, none⟩ = some (.int .i64 dst) := fun W h => (h.cell 2).trans hc2
  have e0 : ∀ W, Blk W nb 54 #[.slice ao fs.length c] → W.cell? ⟨nb, 0, none⟩ = some (.slice ao fs.length c) := fun W h => h.cell 0
  have HE := Lib.hid (And.intro e0 (And.intro e1 e2))
  have hN3 := hN2.keep0 ((Keeps.refl [] w2).drew)
  have hB3 := hB2.drew
  have hO3 := hO2.keep0 ((Keeps.refl [] w2).drew)
  have hk03 := hk02.drew
  have hSw := rds3 (i := 4) (j := 7) (k := 9) (F := fun w0 : World => w0.cell? ⟨nb, 0, none⟩ = some (.slice ao fs.length c)) (G := fun w0 : World => w0.cell? ⟨mb, 1, none⟩ = some (.int .i64 src)) (H := fun w0 : World => w0.cell? ⟨mb, 2, none⟩ = some (.int .i64 dst)) (HE.out.1 _ hN3.bn) (HE.out.2.1 _ hB3) (HE.out.2.2 _ hB3)
  clear e0 e1 e2 hc1 hc2
  refine startU [((4 : Nat), fun w0 : World => w0.cell? ⟨nb, 0, none⟩ = some (.slice ao fs.length c)), ((7 : Nat), fun w0 : World => w0.cell? ⟨mb, 1, none⟩ = some (.int .i64 src)), ((9 : Nat), fun w0 : World => w0.cell? ⟨mb, 2, none⟩ = some (.int .i64 dst))] (by kernel_rfl) ?_
  refine takeU (i := 0) (v := ?_) rfl (by kernel_rfl) (fun _ _ _ h => h) (Or.inl ⟨by rfl, fun w0 hw0 => ?_⟩) (fun p hp _ => hSw p hp) ?_
  rotate_left
  · simp [Reads] at hw0
    go_simp
    try with_reducible rfl
  try go_simp
  refine takeU (i := 1) (v := ?_) rfl (by kernel_rfl) (fun _ _ _ h => h) (Or.inl ⟨by rfl, fun w0 hw0 => ?_⟩) (fun p hp _ => hSw p hp) ?_
  rotate_left
  · simp [Reads] at hw0
    go_simp
    try with_reducible rfl
  try go_simp
  refine takeU (i := 2) (v := ?_) rfl (by kernel_rfl) (fun _ _ _ h => h) (Or.inl ⟨by rfl, fun w0 hw0 => ?_⟩) (fun p hp _ => hSw p hp) ?_
  rotate_left
  · simp [Reads] at hw0
    go_simp
    try with_reducible rfl
  try go_simp
  refine takeU (i := 3) (v := ?_) rfl (by kernel_rfl) (fun _ _ _ h => h) (Or.inl ⟨by rfl, fun w0 hw0 => ?_⟩) (fun p hp _ => hSw p hp) ?_
  rotate_left
  · simp [Reads] at hw0
    go_simp
    try with_reducible rfl
  try go_simp
  refine takeU (i := 4) (v := ?_) rfl (by kernel_rfl) (fun _ _ _ h => h) (Or.inl ⟨by rfl, fun w0 hw0 => ?_⟩) (fun p hp _ => hSw p hp) ?_
  rotate_left
  · simp [Reads] at hw0
    go_simp
    try with_reducible rfl
  try go_simp
  refine takeU (i := 5) (v := ?_) rfl (by kernel_rfl) (fun _ _ _ h => h) (Or.inl ⟨by rfl, fun w0 hw0 => ?_⟩) (fun p hp _ => hSw p hp) ?_
  rotate_left
  · simp [Reads] at hw0
    go_simp
    try with_reducible rfl
  try go_simp
  refine takeU (i := 6) (v := ?_) rfl (by kernel_rfl) (fun _ _ _ h => h) (Or.inl ⟨by rfl, fun w0 hw0 => ?_⟩) (fun p hp _ => hSw p hp) ?_
  rotate_left
  · simp [Reads] at hw0
    go_simp
    try with_reducible rfl
  try go_simp
  refine takeU (i := 7) (v := ?_) rfl (by kernel_rfl) (fun _ _ _ h => h) (Or.inl ⟨by rfl, fun w0 hw0 => ?_⟩) (fun p hp _ => hSw p hp) ?_
  rotate_left
  · simp [Reads] at hw0
    go_simp
    try with_reducible rfl
  try go_simp
  refine takeU (i := 8) (v := ?_) rfl (by kernel_rfl) (fun _ _ _ h => h) (Or.inl ⟨by rfl, fun w0 hw0 => ?_⟩) (fun p hp _ => hSw p hp) ?_
  rotate_left
  · simp [Reads] at hw0
    go_simp
    try with_reducible rfl
  try go_simp
  refine takeU (i := 9) (v := ?_) rfl (by kernel_rfl) (fun _ _ _ h => h) (Or.inl ⟨by rfl, fun w0 hw0 => ?_⟩) (fun p hp _ => hSw p hp) ?_
  rotate_left
  · simp [Reads] at hw0
    go_simp
    try with_reducible rfl
  try go_simp
  refine oneU (i := 10) rfl (by kernel_rfl) (fun K hK => ?_)
  refine step_built rfl 62 _ rfl _ _ (built_F bo bs.length bc src dst) rfl ?_
  refine hK _ _ (fun p hp _ _ => hSw p hp) ?_
  clear hK K
  try go_simp
  refine oneU (i := 11) rfl (by kernel_rfl) (fun K hK => ?_)
  refine step_slice1 rfl 52 62 _ rfl i z (.agg #[.slice bo bs.length bc, .int .i64 src, .int .i64 dst]) 3 Tryd.underlying52 hi hz hsz rfl rfl (by omega) (by omega) ?_
  have hkA := (Keeps.refl [] w2.drew).alloc (.cells #[.slice bo bs.length bc, .int .i64 src, .int .i64 dst] 62)
  have hT : Sl (w2.drew.alloc (.cells #[.slice bo bs.length bc, .int .i64 src, .int .i64 dst] 62)) 3 (some ⟨w2.drew.heap.size, 0, none⟩) 1 1 [.slice bo bs.length bc, .int .i64 src, .int .i64 dst] := Sl.of_blk (Blk.fresh _ _ _) rfl (by decide) (by simp [Value.oneCell'])
  have hN4 := hN3.keep0 hkA
  have hB4 := hB3.keep hkA (by simp)
  have hO4 := hO3.keep0 hkA
  have hk04 := hk03.trans hkA
  refine hK _ _ (fun p hp _ _ => rds3 (HE.out.1 _ hN4.bn) (HE.out.2.1 _ hB4) (HE.out.2.2 _ hB4) p hp) ?_
  clear hK K hkA hN3 hB3 hO3 hk03 hSw hN2 hB2 hO2 hk02
  change wpAnyU _ _ _ _ _ _ _ _ (World.alloc (World.drew w2) (.cells #[.slice bo bs.length bc, .int .i64 src, .int .i64 dst] 62))
  generalize World.alloc (World.drew w2) _ = w4 at *
  try go_simp
  refine oneU (i := 12) rfl (by kernel_rfl) (fun K hK => ?_)
  refine step_append_by rfl _ _ 52 52 rfl N 62 i z 3 40 Tryd.underlying52 hi hz hsz hby hzc ao _ c _ rfl hN4.ol _ rfl 1 _ (hT.src Tryd.underlying52) (by unfold maxLen; omega) (by omega) hN4.nw ?_
  intro a5 c5 w5 hO5 hk5 hb5
  have hn5 : Blk w5 nb 54 #[.slice ao fs.length c] := hN4.bn.keep hk5 (fun hx => ownsRow_ne hN4.ol hN4.bn (by decide) nb hx rfl)
  have hB5 : Blk w5 mb 43 cs := hB4.keep hk5 (fun hx => ownsRow_ne hN4.ol hB4 (by decide) mb hx rfl)
  have ho5 : ∀ f ∈ fs, Own w5 N f.a f.c f.b := fun f hf => (hN4.ob f hf).keep hk5 (ownsRow_apart (hN4.ob f hf) hN4.ol (by decide))
  have hO6 : Own w5 N bo bc bs := hO4.keep hk5 (ownsRow_apart hO4 hN4.ol (by decide))
  have hk05 : Keeps (nb :: blks ao) w w5 := hk04.of_nil.step hk5 (fun x hx => .inl (List.mem_cons_of_mem _ hx))
  have hsz5 : N ≤ w5.heap.size := Nat.le_trans hN4.nw hk5.size
  have hge := hN4.ge
  have hmbn : nb < w5.heap.size := hn5.lt
  have hb6 : ∀ x ∈ blks a5, x ∈ blks ao ∨ mb ≤ x := by
    intro x hx
    cases a5 with
    | none => simp at hx
    | some ad =>
      simp only [blks, List.mem_singleton] at hx
      subst hx
      rcases hb5 ad rfl with h | h
      · exact .inl h
      · right
        have := hB4.lt
        omega
  refine hK _ _ (fun p hp _ _ => rds3 (HE.out.1 _ hn5) (HE.out.2.1 _ hB5) (HE.out.2.2 _ hB5) p hp) ?_
  clear hK K hN4 hB4 hO4 hk04 hk5 hb5 hT
  try go_simp
  have hSw := rds3 (i := 4) (j := 7) (k := 9) (F := fun w0 : World => w0.cell? ⟨nb, 0, none⟩ = some (.slice ao fs.length c)) (G := fun w0 : World => w0.cell? ⟨mb, 1, none⟩ = some (.int .i64 src)) (H := fun w0 : World => w0.cell? ⟨mb, 2, none⟩ = some (.int .i64 dst)) (HE.out.1 _ hn5) (HE.out.2.1 _ hB5) (HE.out.2.2 _ hB5)
  refine takeU (i := 13) (v := ?_) rfl (by kernel_rfl) (fun _ _ _ h => h) (Or.inl ⟨by rfl, fun w0 hw0 => ?_⟩) (fun p hp _ => hSw p hp) ?_
  rotate_left
  · simp [Reads] at hw0
    go_simp
    try with_reducible rfl
  try go_simp
  refine takeU (i := 14) (v := ?_) rfl (by kernel_rfl) (fun _ _ _ h => h) (Or.inl ⟨by rfl, fun w0 hw0 => ?_⟩) (fun p hp _ => hSw p hp) ?_
  rotate_left
  · simp [Reads] at hw0
    go_simp
    try with_reducible rfl
  try go_simp
  have hcn := hn5.cell
  have hfn := hn5.free
  have hln := hn5.lt
  refine oneU (i := 15) rfl (by kernel_rfl) (fun K hK => ?_)
  go_simp
  refine hK _ _ (fun p hp h1 _ => by simp only [List.mem_cons, List.not_mem_nil, or_false] at hp; rcases hp with rfl | rfl | rfl <;> exact waits_absurd h1 (by kernel_rfl)) ?_
  clear hK K hcn hfn hln hSw
  refine doneU (by kernel_rfl) ?_
  have hks : Keeps [nb] w5 (w5.setCell ⟨nb, 0, none⟩ (.slice a5 (fs.length + 1) c5)) := (Keeps.refl [nb] w5).set (p := ⟨nb, 0, none⟩) (by simp) _
  have hn6 := (hn5.put 0 (.slice a5 (fs.length + 1) c5)).eq (cs' := #[.slice a5 (fs.length + 1) c5]) (by simp)
  generalize World.setCell w5 _ _ = w6 at *
  have ol6 := own_of_one hO5 hn5 (by decide) hks
  have ob6 : ∀ f ∈ fs, Own w6 N f.a f.c f.b := fun f hf => own_of_one (ho5 f hf) hn5 (by decide) hks
  have oO6 : Own w6 N bo bc bs := own_of_one hO6 hn5 (by decide) hks
  have hk06 : Keeps (nb :: blks ao) w w6 := hk05.step hks (fun x hx => .inl (by simp at hx; subst hx; exact List.mem_cons_self))
  clear hO5 ho5 hO6 hk05 hn5 hB5
  have hs6 := hks.size
  go_wp2_with fail
  go_ret
  refine ⟨a5, c5, bo, bc, rfl, ⟨by rw [List.length_append]; exact hn6, by rw [List.length_append, fls_append]; exact ol6, ?_, hge, by rw [List.length_append]; simp; omega, by omega⟩, fun x hx => by rw [hmb]; exact hb6 x hx, hk06⟩
  intro f hf'
  rcases List.mem_append.1 hf' with h | h
  · exact ob6 f h
  · simp only [List.mem_singleton] at h
    subst h
    exact oO6
end Go.Proofs.YtllcidpmdmacjaaDoor
/- A net: Peek, Find; slices.Delete of what is in flight. -/

namespace Go.Proofs.YtllcidpmdmacjaaDoor
open Go.RowKit Go.Lib

/-- an error that tells a place: class 40 -/
def ErrPl (w : World) (ev : Value) : Prop := ∃ g i, ev = .iface 66 (.pointer (some ⟨g, 0, none⟩)) ∧ Blk w g 72 #[.int .i64 i, .iface 35 (.int .i64 40)]
theorem ErrPl.keep {w w' : World} {ev : Value} (h : ErrPl w ev) (hk : Keeps [] w w') : ErrPl w' ev := by
  obtain ⟨g, i, h1, h2⟩ := h
  exact ⟨g, i, h1, h2.keep hk (by simp)⟩
theorem classPl {w : World} {ev : Value} (hg : (w).cell? ⟨0, 0, none⟩ = some (.iface 120 (.agg #[.pointer (some ⟨2, 31, none⟩)]))) (h : ErrPl w ev) :
    Calls Tryd.prog 8 #[ev] w fun e w' => e = .returned (.int .i64 40) ∧ Keeps [] w w' := by
  obtain ⟨g, i, rfl, hB⟩ := h
  exact (class_placed0 g 40 w hg (hB.cell 1)).mono fun e w' h => ⟨h.1, Keeps.of_below h.2⟩
/-- an error of a class wrapped twice -/
def ErrW2 (w : World) (ev : Value) (f : Int) : Prop := ∃ q g p p', ev = .iface 57 (.pointer (some ⟨q, 0, none⟩)) ∧ Blk w q 59 #[.string p, .iface 57 (.pointer (some ⟨g, 0, none⟩))] ∧ Blk w g 59 #[.string p', .iface 35 (.int .i64 f)]
theorem classW2 {w : World} {ev : Value} {f : Int} (hg : (w).cell? ⟨0, 0, none⟩ = some (.iface 120 (.agg #[.pointer (some ⟨2, 31, none⟩)]))) (h : ErrW2 w ev f) :
    Calls Tryd.prog 8 #[ev] w fun e w' => e = .returned (.int .i64 f) ∧ Keeps [] w w' := by
  obtain ⟨q, g, p, p', rfl, hB, hG⟩ := h
  exact (class_within2 q g f w hg (hB.cell 1) (hG.cell 1)).mono fun e w' h => ⟨h.1, Keeps.of_below h.2⟩

theorem built_Z2 : Tryd.prog.built 43 [] = some #[.int .i64 0, .int .i64 0, .int .i64 0, .int .u64 0, .int .u64 0, .int .u64 0, .slice none 0 0, .int .u64 0, .int .u64 0, .bool false, .int .i64 0, .slice none 0 0, .bool false, .int .u64 0, .int .u64 0, .string ⟨#[]⟩, .int .u64 0, .int .i64 0, .slice none 0 0, .slice none 0 0, .int .i64 0, .int .u64 0, .int .i64 0] := by kernel_rfl
theorem zm_cells2 : msgCells zeroMd zeroMa = #[.int .i64 0, .int .i64 0, .int .i64 0, .int .u64 0, .int .u64 0, .int .u64 0, .slice none 0 0, .int .u64 0, .int .u64 0, .bool false, .int .i64 0, .slice none 0 0, .bool false, .int .u64 0, .int .u64 0, .string ⟨#[]⟩, .int .u64 0, .int .i64 0, .slice none 0 0, .slice none 0 0, .int .i64 0, .int .u64 0, .int .i64 0] := rfl
theorem store_all2 (cs cs' : Array Value) (h : cs.size = cs'.size) : (cs.toList.take 0 ++ cs'.toList ++ cs.toList.drop (0 + cs'.toList.length)).toArray = cs' := by
  rw [List.drop_eq_nil_of_le (by simp; omega)]
  simp

section
variable {w : World} {N nb : Nat} {ao : Option Addr} {c : Nat} {fs : List Fl}
/-- the three cells of the k-th message in flight -/
theorem NetAt.at (h : NetAt w N nb ao c fs) {k : Nat} {f : Fl} (hv : fs[k]? = some f) :
    ∃ bb o, ao = some ⟨bb, o, none⟩ ∧ w.cell? ⟨bb, o + k * 3, none⟩ = some (.slice f.a f.b.length f.c) ∧ w.cell? ⟨bb, o + k * 3 + 1, none⟩ = some (.int .i64 f.src) ∧ w.cell? ⟨bb, o + k * 3 + 2, none⟩ = some (.int .i64 f.dst) := by
  have hkl := (List.getElem?_eq_some_iff.1 hv).1
  have hS := sl_of_own h.ol (fls_one fs)
  obtain ⟨bb, o, rfl⟩ := Sl.at hS (by have := hS.cap; omega)
  have hc : ∀ j u, j < 3 → f.cells.toList[j]? = some u → w.cell? ⟨bb, o + (k * 3 + j), none⟩ = some u := fun j u hj hu => hS.cell _ rfl _ u ((flat_at _ 3 (fun _ => rfl) fs k j f hv hj).trans hu)
  refine ⟨bb, o, rfl, ?_, ?_, ?_⟩
  · have := hc 0 _ (by decide) rfl; simpa using this
  · have := hc 1 _ (by decide) rfl; simpa [Nat.add_assoc] using this
  · have := hc 2 _ (by decide) rfl; simpa [Nat.add_assoc] using this

set_option maxRecDepth 100000 in
set_option maxHeartbeats 4000000 in
theorem npeek (h : NetAt w N nb ao c fs) (k : Nat) (f : Fl) (hv : fs[k]? = some f) (hok : MsgOk f.b) (hl : f.b.length ≤ 100000000) :
    Calls Tryd.prog 14 #[.pointer (some ⟨nb, 0, none⟩), .int .i64 (k : Int)] w fun e w' => ∃ a, e = .returned (.tuple #[.agg (msgCells (rdMsg ⟨f.b, 0, 0⟩).1 a), .nilIface]) ∧ MsgAt w' (rdMsg ⟨f.b, 0, 0⟩).1 a ∧ Keeps [] w w' := by
  have hX := Blk.fresh w 43 #[.int .i64 0, .int .i64 0, .int .i64 0, .int .u64 0, .int .u64 0, .int .u64 0, .slice none 0 0, .int .u64 0, .int .u64 0, .bool false, .int .i64 0, .slice none 0 0, .bool false, .int .u64 0, .int .u64 0, .string ⟨#[]⟩, .int .u64 0, .int .i64 0, .slice none 0 0, .slice none 0 0, .int .i64 0, .int .u64 0, .int .i64 0]
  have hk := (Keeps.refl [] w).alloc (.cells #[.int .i64 0, .int .i64 0, .int .i64 0, .int .u64 0, .int .u64 0, .int .u64 0, .slice none 0 0, .int .u64 0, .int .u64 0, .bool false, .int .i64 0, .slice none 0 0, .bool false, .int .u64 0, .int .u64 0, .string ⟨#[]⟩, .int .u64 0, .int .i64 0, .slice none 0 0, .slice none 0 0, .int .i64 0, .int .u64 0, .int .i64 0] 43)
  have h1 := h.keep0 hk
  obtain ⟨bb, o, rfl, c0, c1, c2⟩ := h1.at hv
  have hR := (h1.ob f (List.mem_of_getElem? hv)).rb
  have hkl := (List.getElem?_eq_some_iff.1 hv).1
  have n1 : ¬ ((fs.length : Int) ≤ (k : Int)) := by omega
  have n2 : (k : Int) < (fs.length : Int) := by omega
  obtain ⟨fa, fc, fb, fx, fy⟩ := f
  dsimp only at c0 c1 c2 hR hok hl ⊢
  have P := msg_any fa fc fb _ hR hl
  have HOK := Lib.hid hok
  have hc := h1.bn.cell
  have hln := h1.bn.lt
  generalize hd : (rdMsg ⟨fb, 0, 0⟩).1 = d at *
  have HP := Lib.hid P
  clear P hR hok hv hkl h h1
  go_enter Tryd.func14, Tryd.ntmps14
  go_upto_region 1 with (fail)
  generalize World.alloc w _ = w1 at *
  generalize hxb : w.heap.size = xb at *
  go_wp2_with fail
  refine HP.out.mono ?_
  rintro e w2 ⟨d2, a2, ev, rfl, -, hfr, hk2, hcase⟩
  rcases hcase with ⟨rfl, -, rfl⟩ | ⟨-, hno, -⟩
  rotate_left
  · exact absurd HOK.out hno
  have hX2 := hX.keep hk2 (by simp)
  have hk02 := hk.trans hk2
  have hxl := hX.lt
  have HFR := Lib.hid (fun w'' => hfr xb w'' hxl)
  clear hX hk hk2 hfr HP c0 c1 c2 hc hln
  obtain ⟨cs, hcs⟩ : ∃ cs, cs = msgCells d2 a2 := ⟨_, rfl⟩
  have hcsz : cs.size = 23 := by rw [hcs]; rfl
  have hone : cs.toList.all Value.oneCell' = true := by rw [hcs]; rfl
  rw [← hcs]
  have HCS := Lib.hid hcs
  have HONE := Lib.hid hone
  clear hcs hone
  go_wp2_with (refine wpList_store_agg rfl rfl 43 _ _ rfl xb 0 ?_ cs.toList ?_ 43 #[.int .i64 0, .int .i64 0, .int .i64 0, .int .u64 0, .int .u64 0, .int .u64 0, .slice none 0 0, .int .u64 0, .int .u64 0, .bool false, .int .i64 0, .slice none 0 0, .bool false, .int .u64 0, .int .u64 0, .string ⟨#[]⟩, .int .u64 0, .int .i64 0, .slice none 0 0, .slice none 0 0, .int .i64 0, .int .u64 0, .int .i64 0] hX2 ?_ ?_ ?_ cs ?_ ?_; rfl; rfl; (rw [Array.length_toList, hcsz]; exact Tryd.sizeM); (rw [Array.length_toList, hcsz]; simp); exact HONE.out; exact store23 cs hcsz; intro w3 hX3 hk3)
  exact bodyPost_ret (results_ct rfl rfl hX3 Tryd.underlying43 rfl (by rw [hcsz]; exact Tryd.sizeM)) rfl ⟨a2, by rw [HCS.out]; rfl, HFR.out w3 hk3, hk02.step hk3 (fun x hx => by simp at hx; right; omega)⟩

set_option maxRecDepth 100000 in
set_option maxHeartbeats 4000000 in
theorem npeek_no (h : NetAt w N nb ao c fs) (k : Int) (hk0 : k < 0 ∨ (fs.length : Int) ≤ k) :
    Calls Tryd.prog 14 #[.pointer (some ⟨nb, 0, none⟩), .int .i64 k] w fun e w' => ∃ ev, e = .returned (.tuple #[.agg #[.int .i64 0, .int .i64 0, .int .i64 0, .int .u64 0, .int .u64 0, .int .u64 0, .slice none 0 0, .int .u64 0, .int .u64 0, .bool false, .int .i64 0, .slice none 0 0, .bool false, .int .u64 0, .int .u64 0, .string ⟨#[]⟩, .int .u64 0, .int .i64 0, .slice none 0 0, .slice none 0 0, .int .i64 0, .int .u64 0, .int .i64 0], ev]) ∧ ErrPl w' ev ∧ Keeps [] w w' := by
  have hX := Blk.fresh w 43 #[.int .i64 0, .int .i64 0, .int .i64 0, .int .u64 0, .int .u64 0, .int .u64 0, .slice none 0 0, .int .u64 0, .int .u64 0, .bool false, .int .i64 0, .slice none 0 0, .bool false, .int .u64 0, .int .u64 0, .string ⟨#[]⟩, .int .u64 0, .int .i64 0, .slice none 0 0, .slice none 0 0, .int .i64 0, .int .u64 0, .int .i64 0]
  have hk := (Keeps.refl [] w).alloc (.cells #[.int .i64 0, .int .i64 0, .int .i64 0, .int .u64 0, .int .u64 0, .int .u64 0, .slice none 0 0, .int .u64 0, .int .u64 0, .bool false, .int .i64 0, .slice none 0 0, .bool false, .int .u64 0, .int .u64 0, .string ⟨#[]⟩, .int .u64 0, .int .i64 0, .slice none 0 0, .slice none 0 0, .int .i64 0, .int .u64 0, .int .i64 0] 43)
  have h1 := h.keep0 hk
  have hc := h1.bn.cell
  have hln := h1.bn.lt
  clear h1
  by_cases hneg : k < 0
  · clear hk0
    go_enter Tryd.func14, Tryd.ntmps14
    go_upto_region 1 with (fail)
    generalize World.alloc w _ = w1 at *
    generalize hxb : w.heap.size = xb at *
    have hX' := hX.alloc (.cells #[.int .i64 k, .iface 35 (.int .i64 40)] 72)
    have hP := Blk.fresh w1 72 #[.int .i64 k, .iface 35 (.int .i64 40)]
    have hk' := hk.alloc (.cells #[.int .i64 k, .iface 35 (.int .i64 40)] 72)
    have hne : w1.heap.size ≠ xb := by have := hX.lt; omega
    go_wp2_with (first
      | (refine wpList_built rfl 43 _ rfl [] #[.int .i64 0, .int .i64 0, .int .i64 0, .int .u64 0, .int .u64 0, .int .u64 0, .slice none 0 0, .int .u64 0, .int .u64 0, .bool false, .int .i64 0, .slice none 0 0, .bool false, .int .u64 0, .int .u64 0, .string ⟨#[]⟩, .int .u64 0, .int .i64 0, .slice none 0 0, .slice none 0 0, .int .i64 0, .int .u64 0, .int .i64 0] built_Z2 rfl ?_)
      | (refine wpList_store_agg rfl rfl 43 _ _ rfl xb 0 ?_ ((#[.int .i64 0, .int .i64 0, .int .i64 0, .int .u64 0, .int .u64 0, .int .u64 0, .slice none 0 0, .int .u64 0, .int .u64 0, .bool false, .int .i64 0, .slice none 0 0, .bool false, .int .u64 0, .int .u64 0, .string ⟨#[]⟩, .int .u64 0, .int .i64 0, .slice none 0 0, .slice none 0 0, .int .i64 0, .int .u64 0, .int .i64 0] : Array Value).toList) ?_ 43 #[.int .i64 0, .int .i64 0, .int .i64 0, .int .u64 0, .int .u64 0, .int .u64 0, .slice none 0 0, .int .u64 0, .int .u64 0, .bool false, .int .i64 0, .slice none 0 0, .bool false, .int .u64 0, .int .u64 0, .string ⟨#[]⟩, .int .u64 0, .int .i64 0, .slice none 0 0, .slice none 0 0, .int .i64 0, .int .u64 0, .int .i64 0] hX' Tryd.sizeM ?_ ?_ #[.int .i64 0, .int .i64 0, .int .i64 0, .int .u64 0, .int .u64 0, .int .u64 0, .slice none 0 0, .int .u64 0, .int .u64 0, .bool false, .int .i64 0, .slice none 0 0, .bool false, .int .u64 0, .int .u64 0, .string ⟨#[]⟩, .int .u64 0, .int .i64 0, .slice none 0 0, .slice none 0 0, .int .i64 0, .int .u64 0, .int .i64 0] ?_ ?_; rfl; rfl; simp; rfl; rfl; intro w3 hX3 hk3))
    exact bodyPost_ret (results_ct rfl rfl hX3 Tryd.underlying43 rfl Tryd.sizeM) rfl ⟨_, rfl, ⟨_, k, rfl, hP.keep hk3 (by simpa using hne)⟩, hk'.step hk3 (fun x hx => by simp at hx; right; omega)⟩
  · have n1 : (fs.length : Int) ≤ k := by omega
    clear hk0
    go_enter Tryd.func14, Tryd.ntmps14
    go_upto_region 1 with (fail)
    generalize World.alloc w _ = w1 at *
    generalize hxb : w.heap.size = xb at *
    have hX' := hX.alloc (.cells #[.int .i64 k, .iface 35 (.int .i64 40)] 72)
    have hP := Blk.fresh w1 72 #[.int .i64 k, .iface 35 (.int .i64 40)]
    have hk' := hk.alloc (.cells #[.int .i64 k, .iface 35 (.int .i64 40)] 72)
    have hne : w1.heap.size ≠ xb := by have := hX.lt; omega
    go_wp2_with (first
      | (refine wpList_built rfl 43 _ rfl [] #[.int .i64 0, .int .i64 0, .int .i64 0, .int .u64 0, .int .u64 0, .int .u64 0, .slice none 0 0, .int .u64 0, .int .u64 0, .bool false, .int .i64 0, .slice none 0 0, .bool false, .int .u64 0, .int .u64 0, .string ⟨#[]⟩, .int .u64 0, .int .i64 0, .slice none 0 0, .slice none 0 0, .int .i64 0, .int .u64 0, .int .i64 0] built_Z2 rfl ?_)
      | (refine wpList_store_agg rfl rfl 43 _ _ rfl xb 0 ?_ ((#[.int .i64 0, .int .i64 0, .int .i64 0, .int .u64 0, .int .u64 0, .int .u64 0, .slice none 0 0, .int .u64 0, .int .u64 0, .bool false, .int .i64 0, .slice none 0 0, .bool false, .int .u64 0, .int .u64 0, .string ⟨#[]⟩, .int .u64 0, .int .i64 0, .slice none 0 0, .slice none 0 0, .int .i64 0, .int .u64 0, .int .i64 0] : Array Value).toList) ?_ 43 #[.int .i64 0, .int .i64 0, .int .i64 0, .int .u64 0, .int .u64 0, .int .u64 0, .slice none 0 0, .int .u64 0, .int .u64 0, .bool false, .int .i64 0, .slice none 0 0, .bool false, .int .u64 0, .int .u64 0, .string ⟨#[]⟩, .int .u64 0, .int .i64 0, .slice none 0 0, .slice none 0 0, .int .i64 0, .int .u64 0, .int .i64 0] hX' Tryd.sizeM ?_ ?_ #[.int .i64 0, .int .i64 0, .int .i64 0, .int .u64 0, .int .u64 0, .int .u64 0, .slice none 0 0, .int .u64 0, .int .u64 0, .bool false, .int .i64 0, .slice none 0 0, .bool false, .int .u64 0, .int .u64 0, .string ⟨#[]⟩, .int .u64 0, .int .i64 0, .slice none 0 0, .slice none 0 0, .int .i64 0, .int .u64 0, .int .i64 0] ?_ ?_; rfl; rfl; simp; rfl; rfl; intro w3 hX3 hk3))
    exact bodyPost_ret (results_ct rfl rfl hX3 Tryd.underlying43 rfl Tryd.sizeM) rfl ⟨_, rfl, ⟨_, k, rfl, hP.keep hk3 (by simpa using hne)⟩, hk'.step hk3 (fun x hx => by simp at hx; right; omega)⟩
end
end Go.Proofs.YtllcidpmdmacjaaDoor
/- A net: slices.Delete of what is in flight. -/

namespace Go.Proofs.YtllcidpmdmacjaaDoor
open Go.RowKit Go.Lib

theorem ownsRow_take {w : World} {N sz n c k : Nat} {e : TypeId} {ao : Option Addr} {xs : List Value} (h : w.ownsRow N e sz (.slice ao n c) n xs) (hk : k ≤ n) : w.ownsRow N e sz (.slice ao k c) k (xs.take (k * sz)) := by
  have hle : k * sz ≤ n * sz := Nat.mul_le_mul_right _ hk
  refine ⟨by rw [List.length_take, h.1]; omega, ?_⟩
  rcases h.2 with ⟨he, _⟩ | ⟨g, cap, cur, he, hb, hg, hnc, hcm, hcs, ht⟩
  · simp only [Value.slice.injEq] at he
    obtain ⟨rfl, rfl, rfl⟩ := he
    obtain rfl : k = 0 := by omega
    exact .inl ⟨rfl, rfl⟩
  · simp only [Value.slice.injEq] at he
    obtain ⟨rfl, _, rfl⟩ := he
    refine .inr ⟨g, c, cur, rfl, hb, hg, by omega, hcm, hcs, ?_⟩
    rw [← ht, List.take_take, Nat.min_eq_left hle]

section
variable {P : Program}
/-- an append onto what is owned, where there is room -/
theorem run_append_room_own (w : World) (N : Nat) (t tx ty e : TypeId) (i : TypeInfo) (size : Nat) (h1 : P.underlying t = some (.slice e)) (h2 : P.info? e = some i) (h4 : i.size = size)
    (g n c : Nat) (xs : List Value) (hO : w.ownsRow N e size (.slice (some ⟨g, 0, none⟩) n c) n xs) (y : Value) (m : Nat) (news : List Value) (hs : Src P size tx y m news w) (hroom : n + m ≤ c) :
    ∃ w', (Builtin.append_ #[t, tx] ty #[.slice (some ⟨g, 0, none⟩) n c, y]).run P w = .ok (.slice (some ⟨g, 0, none⟩) (n + m) c) w' ∧ w'.ownsRow N e size (.slice (some ⟨g, 0, none⟩) (n + m) c) (n + m) (xs ++ news) ∧ Keeps [g] w w' := by
  subst h4
  have hlen : (xs ++ news).length = (n + m) * i.size := by rw [List.length_append, hO.1, hs.newsLen, Nat.add_mul]
  rcases hO.2 with ⟨he, rfl⟩ | ⟨g', cap, cur, he, hbg, hg, hnc, hcm, hcs, htake⟩
  · cases he
  simp only [Value.slice.injEq, Option.some.injEq, Addr.mk.injEq, and_true, true_and] at he
  obtain ⟨rfl, rfl⟩ := he
  have hfit : n * i.size + news.length ≤ cur.size := by rw [hs.newsLen, hcs, ← Nat.add_mul]; exact Nat.mul_le_mul_right _ hroom
  have hr := run_append_room_src (P := P) w t tx ty e i h1 h2 g 0 n c y m news hs hroom (by
    intro j hj
    rw [cell_of_row w g _ cur e (0, 0) hg, Array.getElem?_eq_getElem (by omega)]
    rfl) (fun j _ => frozen_of_row w g _ cur e hg)
  rw [Nat.zero_add] at hr
  obtain ⟨cur', g1, g2, g3⟩ := heap_setCells g e news (n * i.size) cur w hg hfit
  refine ⟨_, hr, ⟨hlen, .inr ⟨g, c, cur', rfl, hbg, g1, hroom, hcm, by rw [g2, hcs], ?_⟩⟩, ?_⟩
  · rw [Nat.add_mul, ← hs.newsLen, g3, htake]
  · refine ⟨World.os_setCells w _ _ _, tape_setCells g news _ w, World.output_setCells w _ _ _, Nat.le_of_eq (size_setCells g news _ w).symm, fun k hk hn => World.heap_setCells_other w _ _ _ hk (by simpa using hn)⟩

theorem step_append_room {ops : Array Oper} {o : Oper} {a : Act} {w : World} {K : Act → World → Prop} {Q : Exit → Act → World → Prop} {E : Prop}
    (hg : o.guard = none) (s x : Operand) (t tx : TypeId) (hop : o.op = Op.call { callee := Callee.builtin Builtin.append, args := #[s, x], argTypes := #[t, tx] })
    (N : Nat) (e : TypeId) (i : TypeInfo) (size : Nat) (h1 : P.underlying t = some (.slice e)) (h2 : P.info? e = some i) (h4 : i.size = size)
    (g n c : Nat) (xs : List Value) (hv : a.eval s = .slice (some ⟨g, 0, none⟩) n c) (hO : w.ownsRow N e size (.slice (some ⟨g, 0, none⟩) n c) n xs) (y : Value) (hy : a.eval x = y) (m : Nat) (news : List Value) (hs : Src P size tx y m news w) (hroom : n + m ≤ c)
    (hK : ∀ w', w'.ownsRow N e size (.slice (some ⟨g, 0, none⟩) (n + m) c) (n + m) (xs ++ news) → Keeps [g] w w' → K (a.put o.dst (.slice (some ⟨g, 0, none⟩) (n + m) c)) w') :
    if Region.wanted o (yielded ops a.tmps) = true then Oper.wp P o a w K Q else E := by
  have hw : Region.wanted o (yielded ops a.tmps) = true := by simp [Region.wanted, hg]
  rw [if_pos hw]
  obtain ⟨w', hrun, hO', hk⟩ := run_append_room_own (P := P) w N t tx o.type e i size h1 h2 h4 g n c xs hO y m news hs hroom
  unfold Oper.wp
  simp [execOp, hop, resolve, invoke, builtin, hv, hy, hrun, Result.andThen]
  exact hK w' hO' hk

/-- clear of one element -/
theorem run_clear1 (w : World) (t e ty : TypeId) (i : TypeInfo) (z : Value) (hu : P.underlying t = some (.slice e)) (hi : P.info? e = some i) (hz : i.zero = some z) (h1 : ∀ v ∈ z.cells.toList, v.oneCell' = true) (b o c : Nat)
    (hc : ∀ j, j < z.cells.size → (w.cell? ⟨b, o + j, none⟩).isSome = true) (hf : ∀ j, j < z.cells.size → w.frozen? ⟨b, o + j, none⟩ = false) :
    (Builtin.clear_ #[t] ty #[.slice (some ⟨b, o, none⟩) 1 c]).run P w = .ok (.tuple #[]) (w.setCells b o z.cells.toList) := by
  have hzc : (Builtin.zeroCells z.cells 1).toList = z.cells.toList := by
    simp only [Builtin.zeroCells, Nat.one_mul]
    apply List.ext_getElem
    · simp
    · intro k h1 h2
      simp at h1 h2
      simp [Nat.mod_eq_of_lt h1, h1]
  have hst := run_storeCells_cells (P := P) b o z.cells.toList 0 w (by simpa using hc) (by simpa using hf) h1
  simp only [Nat.add_zero] at hst
  have hv : (zeroValue e).run P w = .ok z w := by simp [zeroValue, typeInfo, hi, hz]
  simp [Builtin.clear_, run_underlying hu, hv, hzc, hst]
end

/-- what is owned stays where cells behind it turn -/
theorem ownsRow_behind {w : World} {N sz n c g o : Nat} {e : TypeId} {xs vs : List Value} (h : w.ownsRow N e sz (.slice (some ⟨g, 0, none⟩) n c) n xs) (ho : n * sz ≤ o) (hfit : o + vs.length ≤ c * sz) : (w.setCells g o vs).ownsRow N e sz (.slice (some ⟨g, 0, none⟩) n c) n xs ∧ Keeps [g] w (w.setCells g o vs) := by
  refine ⟨⟨h.1, ?_⟩, World.os_setCells w _ _ _, tape_setCells g vs _ w, World.output_setCells w _ _ _, Nat.le_of_eq (size_setCells g vs _ w).symm, fun k hk hn => World.heap_setCells_other w _ _ _ hk (by simpa using hn)⟩
  rcases h.2 with ⟨he, _⟩ | ⟨g', cap, cur, he, hb, hg, hnc, hcm, hcs, ht⟩
  · cases he
  simp only [Value.slice.injEq, Option.some.injEq, Addr.mk.injEq, and_true, true_and] at he
  obtain ⟨rfl, rfl⟩ := he
  obtain ⟨cur', g1, g2, g3⟩ := heap_setCells g e vs o cur w hg (by omega)
  refine .inr ⟨g, c, cur', rfl, hb, g1, hnc, hcm, by rw [g2, hcs], ?_⟩
  rw [← ht]
  have e1 : cur'.toList.take (n * sz) = (cur'.toList.take (o + vs.length)).take (n * sz) := by rw [List.take_take, Nat.min_eq_left (by omega)]
  rw [e1, g3, List.take_append_of_le_length (by simp; omega), List.take_take, Nat.min_eq_left ho]

theorem ownsRow_has {w : World} {N sz n c g : Nat} {e : TypeId} {xs : List Value} (h : w.ownsRow N e sz (.slice (some ⟨g, 0, none⟩) n c) n xs) (j : Nat) (hj : j < c * sz) : (w.cell? ⟨g, j, none⟩).isSome = true ∧ w.frozen? ⟨g, j, none⟩ = false := by
  rcases h.2 with ⟨he, _⟩ | ⟨g', cap, cur, he, hb, hg, hnc, hcm, hcs, ht⟩
  · cases he
  simp only [Value.slice.injEq, Option.some.injEq, Addr.mk.injEq, and_true, true_and] at he
  obtain ⟨rfl, rfl⟩ := he
  rw [cell_of_row w g _ cur e (0, 0) hg, Array.getElem?_eq_getElem (by omega)]
  exact ⟨rfl, frozen_of_row w g _ cur e hg⟩
theorem infoF1 : ∃ i z, Tryd.prog.info? 62 = some i ∧ i.zero = some z ∧ i.size = 3 ∧ i.bytes = 40 ∧ z.cells.size = 3 ∧ ∀ v ∈ z.cells.toList, v.oneCell' = true := by
  have h : (Tryd.prog.info? 62).map (fun i => (i.size, i.bytes, (i.zero.map fun z => (z.cells.size, z.cells.toList.all Value.oneCell')))) = some (3, 40, some (3, true)) := by kernel_rfl
  obtain ⟨i, hi, hx⟩ := Option.map_eq_some_iff.1 h
  simp only [Prod.mk.injEq] at hx
  obtain ⟨z, hz, hc⟩ := Option.map_eq_some_iff.1 hx.2.2
  simp only [Prod.mk.injEq, List.all_eq_true] at hc
  exact ⟨i, z, hi, hz, hx.1, hx.2.1, hc.1, hc.2⟩

theorem fls_take (l : List Fl) (k : Nat) : (fls l).take (k * 3) = fls (l.take k) := by
  induction l generalizing k with
  | nil => simp [fls]
  | cons f l ih =>
    cases k with
    | zero => simp [fls]
    | succ k =>
      have e : fls (f :: l) = f.cells.toList ++ fls l := by simp [fls]
      rw [e, List.take_succ_cons, show fls (f :: l.take k) = f.cells.toList ++ fls (l.take k) by simp [fls], ← ih, show (k + 1) * 3 = f.cells.toList.length + k * 3 by simp; omega, List.take_length_add_append]
theorem fls_drop (l : List Fl) (k : Nat) : (fls l).drop (k * 3) = fls (l.drop k) := by
  induction l generalizing k with
  | nil => simp [fls]
  | cons f l ih =>
    cases k with
    | zero => simp [fls]
    | succ k =>
      have e : fls (f :: l) = f.cells.toList ++ fls l := by simp [fls]
      rw [e, List.drop_succ_cons, ← ih, show (k + 1) * 3 = f.cells.toList.length + k * 3 by simp; omega, List.drop_length_add_append]

set_option maxRecDepth 100000 in
set_option maxHeartbeats 4000000 in
theorem ndelete (N g c m k : Nat) (fs : List Fl) (w : World) (hm : fs.length = m + 1) (hle : m ≤ 4096) (hk : k ≤ m) (hO : w.ownsRow N 62 3 (.slice (some ⟨g, 0, none⟩) fs.length c) fs.length (fls fs)) :
    Calls Tryd.prog 19 #[.slice (some ⟨g, 0, none⟩) fs.length c, .int .i64 (k : Int), .int .i64 ((k : Int) + 1)] w fun e w' => e = .returned (.slice (some ⟨g, 0, none⟩) m c) ∧ w'.ownsRow N 62 3 (.slice (some ⟨g, 0, none⟩) m c) m (fls (fs.eraseIdx k)) ∧ Keeps [g] w w' := by
  obtain ⟨i, z, hi, hz, hsz, hby, hzc, hz1⟩ := infoF1
  have hS := sl_of_own hO (fls_one fs)
  have hcap := hS.cap
  have hmx := hS.most
  unfold maxLen at hmx
  rw [hm] at hO hS hcap
  rw [hm]
  have n1 : (k : Int) ≤ (k : Int) + 1 := by omega
  have n2 : (k : Int) + 1 ≤ ((m + 1 : Nat) : Int) := by omega
  have n3 : ((m + 1 : Nat) : Int) ≤ (c : Int) := by omega
  have n4 : ((k : Int) == (k : Int) + 1) = false := by simp; omega
  have n5 : (k : Int) ≤ (c : Int) := by omega
  go_enter Tryd.func19, Tryd.ntmps19
  go_wp2_with fail
  have hSw : ∀ p ∈ ([] : List (Nat × (World → Prop))), p.2 w.drew := by simp
  have hk0 := (Keeps.refl [g] w).drew
  have hT := ownsRow_keep (ownsRow_take hO (k := k) (by omega)) ((Keeps.refl [] w).drew) (by simp)
  rw [fls_take] at hT
  have hkm : k + (m - k) = m := by omega
  have HF := Lib.hid (show fls (fs.take k) ++ fls (fs.drop (k + 1)) = fls (fs.eraseIdx k) by rw [← fls_append, List.eraseIdx_eq_take_drop_succ])
  have n0 : (0 : Int) ≤ (k : Int) + 1 := by omega
  have n7 : ¬ (c = m) := by omega
  have n8 : (m : Int) ≤ (m : Int) + 1 := by omega
  have n9 : (m : Int) + 1 ≤ (c : Int) := by omega
  have hD := (hS.drop (k := k + 1) (by omega)).keep0 ((Keeps.refl [] w).drew)
  rw [fls_drop, show m + 1 - (k + 1) = m - k by omega] at hD
  refine startU [] (by kernel_rfl) ?_
  by_cases hck : c = k + 1
  · obtain rfl : m = k := by omega
    have hD' : Sl w.drew 3 (some ⟨g, 0, none⟩) 0 0 (fls (fs.drop (m + 1))) := by
      rw [if_pos hck, show c - (m + 1) = 0 by omega, Nat.sub_self] at hD
      exact hD
    subst hck
    refine takeU (i := 0) (v := ?_) rfl (by kernel_rfl) (fun _ _ _ h => h) (Or.inl ⟨by rfl, fun w0 hw0 => ?_⟩) (fun p hp _ => hSw p hp) ?_
    rotate_left
    · simp [Reads] at hw0
      go_simp
      try with_reducible rfl
    try go_simp
    refine takeU (i := 1) (v := ?_) rfl (by kernel_rfl) (fun _ _ _ h => h) (Or.inl ⟨by rfl, fun w0 hw0 => ?_⟩) (fun p hp _ => hSw p hp) ?_
    rotate_left
    · simp [Reads] at hw0
      go_simp
      try with_reducible rfl
    try go_simp
    refine takeU (i := 2) (v := ?_) rfl (by kernel_rfl) (fun _ _ _ h => h) (Or.inl ⟨by rfl, fun w0 hw0 => ?_⟩) (fun p hp _ => hSw p hp) ?_
    rotate_left
    · simp [Reads] at hw0
      go_simp
      try with_reducible rfl
    try go_simp
    refine takeU (i := 3) (v := ?_) rfl (by kernel_rfl) (fun _ _ _ h => h) (Or.inl ⟨by rfl, fun w0 hw0 => ?_⟩) (fun p hp _ => hSw p hp) ?_
    rotate_left
    · simp [Reads] at hw0
      go_simp
      try with_reducible rfl
    try go_simp
    refine takeU (i := 4) (v := ?_) rfl (by kernel_rfl) (fun _ _ _ h => h) (Or.inl ⟨by rfl, fun w0 hw0 => ?_⟩) (fun p hp _ => hSw p hp) ?_
    rotate_left
    · simp [Reads] at hw0
      go_simp
      try with_reducible rfl
    try go_simp
    refine takeU (i := 5) (v := ?_) rfl (by kernel_rfl) (fun _ _ _ h => h) (Or.inl ⟨by rfl, fun w0 hw0 => ?_⟩) (fun p hp _ => hSw p hp) ?_
    rotate_left
    · simp [Reads] at hw0
      go_simp
      try with_reducible rfl
    try go_simp
    refine oneU (i := 6) rfl (by kernel_rfl) (fun K hK => ?_)
    refine step_append_room rfl _ _ 52 52 rfl N 62 i 3 Tryd.underlying52 hi hsz g m (m + 1) (fls (fs.take m)) rfl hT _ rfl 0 _ (hD'.src Tryd.underlying52) (by omega) ?_
    intro w2 hO2 hk2
    simp only [Nat.add_zero] at hO2 ⊢
    refine hK _ _ (fun p hp => by simp at hp) ?_
    clear hK K
    try go_simp
    refine oneU (i := 7) rfl (by kernel_rfl) (fun K hK => ?_)
    go_simp
    refine hK _ _ (fun p hp => by simp at hp) ?_
    clear hK K
    refine doneU (by kernel_rfl) ?_
    rw [HF.out] at hO2
    have hcl := run_clear1 (P := Tryd.prog) w2 52 62 0 i z Tryd.underlying52 hi hz hz1 g (m * 3) 1 (fun j hj => (ownsRow_has hO2 (m * 3 + j) (by omega)).1) (fun j hj => (ownsRow_has hO2 (m * 3 + j) (by omega)).2)
    obtain ⟨hO3, hk3⟩ := ownsRow_behind (vs := z.cells.toList) hO2 (o := m * 3) (Nat.le_refl _) (by simp; omega)
    have hk03 := (hk0.trans hk2).trans hk3
    clear hT hD' hD hS hO2 hk2 hk3 hk0 hO
    generalize World.setCells w2 g (m * 3) z.cells.toList = w3 at *
    go_wp2_with fail
    go_ret
    exact ⟨rfl, hO3, hk03⟩
  have hD' : Sl w.drew 3 (some ⟨g, (k + 1) * 3, none⟩) (m - k) (c - (k + 1)) (fls (fs.drop (k + 1))) := by
    rw [if_neg hck] at hD
    simpa [addr_add] using hD
  refine takeU (i := 0) (v := ?_) rfl (by kernel_rfl) (fun _ _ _ h => h) (Or.inl ⟨by rfl, fun w0 hw0 => ?_⟩) (fun p hp _ => hSw p hp) ?_
  rotate_left
  · simp [Reads] at hw0
    go_simp
    try with_reducible rfl
  try go_simp
  refine takeU (i := 1) (v := ?_) rfl (by kernel_rfl) (fun _ _ _ h => h) (Or.inl ⟨by rfl, fun w0 hw0 => ?_⟩) (fun p hp _ => hSw p hp) ?_
  rotate_left
  · simp [Reads] at hw0
    go_simp
    try with_reducible rfl
  try go_simp
  refine takeU (i := 2) (v := ?_) rfl (by kernel_rfl) (fun _ _ _ h => h) (Or.inl ⟨by rfl, fun w0 hw0 => ?_⟩) (fun p hp _ => hSw p hp) ?_
  rotate_left
  · simp [Reads] at hw0
    go_simp
    try with_reducible rfl
  try go_simp
  refine takeU (i := 3) (v := ?_) rfl (by kernel_rfl) (fun _ _ _ h => h) (Or.inl ⟨by rfl, fun w0 hw0 => ?_⟩) (fun p hp _ => hSw p hp) ?_
  rotate_left
  · simp [Reads] at hw0
    go_simp
    try with_reducible rfl
  try go_simp
  refine takeU (i := 4) (v := ?_) rfl (by kernel_rfl) (fun _ _ _ h => h) (Or.inl ⟨by rfl, fun w0 hw0 => ?_⟩) (fun p hp _ => hSw p hp) ?_
  rotate_left
  · simp [Reads] at hw0
    go_simp
    try with_reducible rfl
  try go_simp
  refine takeU (i := 5) (v := ?_) rfl (by kernel_rfl) (fun _ _ _ h => h) (Or.inl ⟨by rfl, fun w0 hw0 => ?_⟩) (fun p hp _ => hSw p hp) ?_
  rotate_left
  · simp [Reads] at hw0
    go_simp
    try with_reducible rfl
  try go_simp
  refine oneU (i := 6) rfl (by kernel_rfl) (fun K hK => ?_)
  refine step_append_room rfl _ _ 52 52 rfl N 62 i 3 Tryd.underlying52 hi hsz g k c (fls (fs.take k)) rfl hT _ rfl (m - k) _ (hD'.src Tryd.underlying52) (by omega) ?_
  intro w2 hO2 hk2
  rw [hkm] at hO2 ⊢
  refine hK _ _ (fun p hp => by simp at hp) ?_
  clear hK K
  try go_simp
  refine oneU (i := 7) rfl (by kernel_rfl) (fun K hK => ?_)
  go_simp
  refine hK _ _ (fun p hp => by simp at hp) ?_
  clear hK K
  refine doneU (by kernel_rfl) ?_
  rw [HF.out] at hO2
  have hcl := run_clear1 (P := Tryd.prog) w2 52 62 0 i z Tryd.underlying52 hi hz hz1 g (m * 3) (c - m) (fun j hj => (ownsRow_has hO2 (m * 3 + j) (by omega)).1) (fun j hj => (ownsRow_has hO2 (m * 3 + j) (by omega)).2)
  obtain ⟨hO3, hk3⟩ := ownsRow_behind (vs := z.cells.toList) hO2 (o := m * 3) (Nat.le_refl _) (by simp; omega)
  have hk03 := (hk0.trans hk2).trans hk3
  clear hT hD' hD hS hO2 hk2 hk3 hk0 hO
  generalize World.setCells w2 g (m * 3) z.cells.toList = w3 at *
  go_wp2_with fail
  go_ret
  exact ⟨rfl, hO3, hk03⟩
end Go.Proofs.YtllcidpmdmacjaaDoor
/- A net: Take, Drop. -/

namespace Go.Proofs.YtllcidpmdmacjaaDoor
open Go.RowKit Go.Lib

theorem as_hit2 (q t : Nat) (old : Value) (w : World) (hg : (w).cell? ⟨0, 0, none⟩ = some (.iface 120 (.agg #[.pointer (some ⟨2, 31, none⟩)]))) (ht0 : w.cell? ⟨t, 0, none⟩ = some old) (hf0 : w.frozen? ⟨t, 0, none⟩ = false) :
    Calls Tryd.prog 17 #[.iface 66 (.pointer (some ⟨q, 0, none⟩)), .iface 67 (.pointer (some ⟨t, 0, none⟩))] w fun ev w' => ev = .returned (.bool true) ∧ Keeps [t] w w' := by
  refine (as_hitQ q t old w hg ht0 hf0).mono ?_
  rintro e w' ⟨rfl, rfl⟩
  exact ⟨rfl, (((((Keeps.refl [t] w).set (p := ⟨t, 0, none⟩) (by simp) _).alloc _).alloc _).alloc _).alloc _⟩

section
variable {w : World} {N nb : Nat} {ao : Option Addr} {c : Nat} {fs : List Fl}
theorem NetAt.ao0 (h : NetAt w N nb ao c fs) (hl : 0 < fs.length) : ∃ g, ao = some ⟨g, 0, none⟩ ∧ N ≤ g := by
  rcases h.ol.2 with ⟨he, h0⟩ | ⟨g, cap, cur, he, hb, _⟩
  · omega
  · simp only [Value.slice.injEq] at he
    obtain ⟨rfl, _, _⟩ := he
    exact ⟨g, rfl, hb⟩

set_option maxRecDepth 100000 in
set_option maxHeartbeats 4000000 in
theorem ntake (h : NetAt w N nb ao c fs) (k : Nat) (f : Fl) (hv : fs[k]? = some f) (hok : MsgOk f.b) (hl : f.b.length ≤ 100000000) :
    Calls Tryd.prog 9 #[.pointer (some ⟨nb, 0, none⟩), .int .i64 (k : Int)] w fun e w' => ∃ a, e = .returned (.tuple #[.agg (msgCells (rdMsg ⟨f.b, 0, 0⟩).1 a), .nilIface]) ∧ NetAt w' N nb ao c (fs.eraseIdx k) ∧ Keeps (nb :: blks ao) w w' := by
  have hkl := (List.getElem?_eq_some_iff.1 hv).1
  obtain ⟨g, hg0, hgN⟩ := h.ao0 (by omega)
  subst hg0
  obtain ⟨m, hm⟩ : ∃ m, fs.length = m + 1 := ⟨fs.length - 1, by omega⟩
  have hle := h.le
  have q1 : IntKind.i64.wrap ((k : Int) + 1) = k + 1 := IntWalk.i64_in _ (by omega)
  have hX := Blk.fresh w 43 #[.int .i64 0, .int .i64 0, .int .i64 0, .int .u64 0, .int .u64 0, .int .u64 0, .slice none 0 0, .int .u64 0, .int .u64 0, .bool false, .int .i64 0, .slice none 0 0, .bool false, .int .u64 0, .int .u64 0, .string ⟨#[]⟩, .int .u64 0, .int .i64 0, .slice none 0 0, .slice none 0 0, .int .i64 0, .int .u64 0, .int .i64 0]
  have hk := (Keeps.refl [] w).alloc (.cells #[.int .i64 0, .int .i64 0, .int .i64 0, .int .u64 0, .int .u64 0, .int .u64 0, .slice none 0 0, .int .u64 0, .int .u64 0, .bool false, .int .i64 0, .slice none 0 0, .bool false, .int .u64 0, .int .u64 0, .string ⟨#[]⟩, .int .u64 0, .int .i64 0, .slice none 0 0, .slice none 0 0, .int .i64 0, .int .u64 0, .int .i64 0] 43)
  have h1 := h.keep0 hk
  have HP := Lib.hid (npeek h1 k f hv hok hl)
  obtain ⟨d, hd⟩ : ∃ d, d = (rdMsg ⟨f.b, 0, 0⟩).1 := ⟨_, rfl⟩
  rw [← hd] at HP ⊢
  clear h hv hok hl hd
  go_enter Tryd.func9, Tryd.ntmps9
  go_upto_region 1 with (fail)
  generalize World.alloc w _ = w1 at *
  generalize hxb : w.heap.size = xb at *
  go_wp2_with fail
  refine HP.out.mono ?_
  rintro e w2 ⟨a2, rfl, -, hk2⟩
  have hX2 := hX.keep hk2 (by simp)
  have h2 := h1.keep0 hk2
  have hk02 := hk.trans hk2
  clear hX hk hk2 h1 HP
  obtain ⟨cs, hcs⟩ : ∃ cs, cs = msgCells d a2 := ⟨_, rfl⟩
  have hcsz : cs.size = 23 := by rw [hcs]; rfl
  have hone : cs.toList.all Value.oneCell' = true := by rw [hcs]; rfl
  rw [← hcs]
  have HCS := Lib.hid hcs
  have HONE := Lib.hid hone
  clear hcs hone
  go_upto_region 2 with (refine wpList_store_fresh rfl rfl 43 _ _ rfl (w2).heap.size ?_ rfl (cs).toList ?_ _ _ ?_ ?_ ?_ ?_; rfl; rfl; (rw [Array.length_toList, hcsz]; exact Tryd.sizeM); simp [hcsz]; exact HONE.out)
  change Code.wp _ _ _ _ (World.alloc w2 (.cells cs 43))
  have hY := Blk.fresh w2 43 cs
  have hkA := (Keeps.refl [] w2).alloc (.cells cs 43)
  have hX3 := hX2.keep hkA (by simp)
  have h3 := h2.keep0 hkA
  have hk03 := hk02.trans hkA
  have hyx : w2.heap.size ≠ xb := by have := hX2.lt; omega
  have hyw : xb ≤ w2.heap.size := by rw [← hxb]; exact hk02.size
  clear hX2 h2 hk02 hkA
  generalize World.alloc w2 _ = w3 at *
  generalize w2.heap.size = yb at *
  have hPb := Blk.fresh w3 66 #[.pointer none]
  have hkA := (Keeps.refl [] w3).alloc (.cells #[.pointer none] 66)
  have hX4 := hX3.keep hkA (by simp)
  have hY4 := hY.keep hkA (by simp)
  have h4 := h3.keep0 hkA
  have hk04 := hk03.trans hkA
  go_upto_region 3 with (fail)
  clear hX3 hY h3 hk03 hkA
  generalize World.alloc w3 _ = w4 at *
  generalize w3.heap.size = pb at *
  go_wp2_with fail
  refine (as_nilQ _ _).mono ?_
  rintro e w' ⟨rfl, hw⟩
  obtain rfl := hw.symm
  clear hw
  have hcn := h4.bn.cell
  have hln := h4.bn.lt
  have D := ndelete N g c m k fs w4 hm (by omega) (by omega) h4.ol
  rw [hm] at D hcn
  go_wp2_with fail
  refine D.mono ?_
  rintro e w5 ⟨rfl, hO5, hk5⟩
  have hgn : nb ≠ g := fun e => ownsRow_ne h4.ol h4.bn (by decide) g (by simp) e.symm
  have hgx : xb ≠ g := fun e => ownsRow_ne h4.ol hX4 (by decide) g (by simp) e.symm
  have hgy : yb ≠ g := fun e => ownsRow_ne h4.ol hY4 (by decide) g (by simp) e.symm
  have hn5 := h4.bn.keep hk5 (by simpa using hgn)
  have hX5 := hX4.keep hk5 (by simpa using hgx)
  have hY5 := hY4.keep hk5 (by simpa using hgy)
  have ho5 : ∀ f ∈ fs, Own w5 N f.a f.c f.b := fun f hf => (h4.ob f hf).keep hk5 (fun x hx => by simp only [List.mem_singleton]; rintro rfl; exact ownsRow_apart (h4.ob f hf) h4.ol (by decide) _ hx (by simp))
  have hk05 : Keeps [nb, g] w w5 := hk04.of_nil.step hk5 (fun x hx => .inl (by simp at hx; simp [hx]))
  have hge := h4.ge
  have hs5 : N ≤ w5.heap.size := Nat.le_trans h4.nw hk5.size
  clear hcn hln D hX4 hY4 h4 hk04 hk5 hPb
  have hcn := hn5.cell
  have hln := hn5.lt
  have hfn := hn5.free
  go_upto_region 6 with (fail)
  clear hcn hln hfn
  have hks : Keeps [nb] w5 (w5.setCell ⟨nb, 0, none⟩ (.slice (some ⟨g, 0, none⟩) m c)) := (Keeps.refl [nb] w5).set (p := ⟨nb, 0, none⟩) (by simp) _
  have hn6 := (hn5.put 0 (.slice (some ⟨g, 0, none⟩) m c)).eq (cs' := #[.slice (some ⟨g, 0, none⟩) m c]) (by simp)
  have hnx : xb ≠ nb := fun e => absurd rfl (hn5.ne (e ▸ hX5) (by decide))
  have hny : yb ≠ nb := fun e => absurd rfl (hn5.ne (e ▸ hY5) (by decide))
  generalize World.setCell w5 _ _ = w6 at *
  have ol6 := own_of_one hO5 hn5 (by decide) hks
  have ob6 : ∀ f ∈ fs, Own w6 N f.a f.c f.b := fun f hf => own_of_one (ho5 f hf) hn5 (by decide) hks
  have hX6 := hX5.keep hks (by simpa using hnx)
  have hY6 := hY5.keep hks (by simpa using hny)
  have hk06 : Keeps [nb, g] w w6 := hk05.step hks (fun x hx => .inl (by simp at hx; simp [hx]))
  have hs6 : N ≤ w6.heap.size := Nat.le_trans hs5 hks.size
  have hel : (fs.eraseIdx k).length = m := by rw [List.length_eraseIdx_of_lt (by omega)]; omega
  have hN6 : NetAt w6 N nb (some ⟨g, 0, none⟩) c (fs.eraseIdx k) := ⟨by rw [hel]; exact hn6, by rw [hel]; exact ol6, fun f hf => ob6 f (List.mem_of_mem_eraseIdx hf), hge, by omega, hs6⟩
  clear hks hn6 ol6 ob6 hn5 hX5 hY5 ho5 hk05 hO5 hs5
  go_wp2_with (first
    | (refine wpList_load_agg rfl 43 _ rfl yb 0 23 ?_ 43 cs _ hY6 Tryd.underlying43 rfl Tryd.sizeM ?_ cs ?_ ?_; rfl; omega; exact take23 cs hcsz)
    | (refine wpList_store_agg rfl rfl 43 _ _ rfl xb 0 ?_ (cs).toList ?_ 43 #[.int .i64 0, .int .i64 0, .int .i64 0, .int .u64 0, .int .u64 0, .int .u64 0, .slice none 0 0, .int .u64 0, .int .u64 0, .bool false, .int .i64 0, .slice none 0 0, .bool false, .int .u64 0, .int .u64 0, .string ⟨#[]⟩, .int .u64 0, .int .i64 0, .slice none 0 0, .slice none 0 0, .int .i64 0, .int .u64 0, .int .i64 0] hX6 ?_ ?_ ?_ cs ?_ ?_; rfl; rfl; (rw [Array.length_toList, hcsz]; exact Tryd.sizeM); (rw [Array.length_toList, hcsz]; simp); exact HONE.out; exact store23 cs hcsz; intro wS hXS hkS))
  exact bodyPost_ret (results_ct rfl rfl hXS Tryd.underlying43 rfl (by rw [hcsz]; exact Tryd.sizeM)) rfl ⟨a2, by rw [HCS.out]; rfl, hN6.keepB hX6 (by decide) (by decide) (by decide) hkS, hk06.step hkS (fun x hx => by simp at hx; right; omega)⟩

set_option maxRecDepth 100000 in
set_option maxHeartbeats 4000000 in
theorem ntake_no (h : NetAt w N nb ao c fs) (hg : (w).cell? ⟨0, 0, none⟩ = some (.iface 120 (.agg #[.pointer (some ⟨2, 31, none⟩)]))) (k : Int) (hk0 : k < 0 ∨ (fs.length : Int) ≤ k) :
    Calls Tryd.prog 9 #[.pointer (some ⟨nb, 0, none⟩), .int .i64 k] w fun e w' => ∃ ev, e = .returned (.tuple #[.agg #[.int .i64 0, .int .i64 0, .int .i64 0, .int .u64 0, .int .u64 0, .int .u64 0, .slice none 0 0, .int .u64 0, .int .u64 0, .bool false, .int .i64 0, .slice none 0 0, .bool false, .int .u64 0, .int .u64 0, .string ⟨#[]⟩, .int .u64 0, .int .i64 0, .slice none 0 0, .slice none 0 0, .int .i64 0, .int .u64 0, .int .i64 0], ev]) ∧ ErrPl w' ev ∧ Keeps [] w w' := by
  have hX := Blk.fresh w 43 #[.int .i64 0, .int .i64 0, .int .i64 0, .int .u64 0, .int .u64 0, .int .u64 0, .slice none 0 0, .int .u64 0, .int .u64 0, .bool false, .int .i64 0, .slice none 0 0, .bool false, .int .u64 0, .int .u64 0, .string ⟨#[]⟩, .int .u64 0, .int .i64 0, .slice none 0 0, .slice none 0 0, .int .i64 0, .int .u64 0, .int .i64 0]
  have hk := (Keeps.refl [] w).alloc (.cells #[.int .i64 0, .int .i64 0, .int .i64 0, .int .u64 0, .int .u64 0, .int .u64 0, .slice none 0 0, .int .u64 0, .int .u64 0, .bool false, .int .i64 0, .slice none 0 0, .bool false, .int .u64 0, .int .u64 0, .string ⟨#[]⟩, .int .u64 0, .int .i64 0, .slice none 0 0, .slice none 0 0, .int .i64 0, .int .u64 0, .int .i64 0] 43)
  have h1 := h.keep0 hk
  have HP := Lib.hid (npeek_no h1 k hk0)
  have HG := Lib.hid hg
  have hzs : (#[.int .i64 0, .int .i64 0, .int .i64 0, .int .u64 0, .int .u64 0, .int .u64 0, .slice none 0 0, .int .u64 0, .int .u64 0, .bool false, .int .i64 0, .slice none 0 0, .bool false, .int .u64 0, .int .u64 0, .string ⟨#[]⟩, .int .u64 0, .int .i64 0, .slice none 0 0, .slice none 0 0, .int .i64 0, .int .u64 0, .int .i64 0] : Array Value).size = 23 := rfl
  have hzo : (#[.int .i64 0, .int .i64 0, .int .i64 0, .int .u64 0, .int .u64 0, .int .u64 0, .slice none 0 0, .int .u64 0, .int .u64 0, .bool false, .int .i64 0, .slice none 0 0, .bool false, .int .u64 0, .int .u64 0, .string ⟨#[]⟩, .int .u64 0, .int .i64 0, .slice none 0 0, .slice none 0 0, .int .i64 0, .int .u64 0, .int .i64 0] : Array Value).toList.all Value.oneCell' = true := rfl
  clear h hk0 hg
  go_enter Tryd.func9, Tryd.ntmps9
  go_upto_region 1 with (fail)
  generalize World.alloc w _ = w1 at *
  generalize hxb : w.heap.size = xb at *
  go_wp2_with fail
  refine HP.out.mono ?_
  rintro e w2 ⟨ev, rfl, hE, hk2⟩
  have hX2 := hX.keep hk2 (by simp)
  have hk02 := hk.trans hk2
  clear hX hk hk2 h1 HP
  obtain ⟨cs, hcs⟩ : ∃ cs : Array Value, cs = #[.int .i64 0, .int .i64 0, .int .i64 0, .int .u64 0, .int .u64 0, .int .u64 0, .slice none 0 0, .int .u64 0, .int .u64 0, .bool false, .int .i64 0, .slice none 0 0, .bool false, .int .u64 0, .int .u64 0, .string ⟨#[]⟩, .int .u64 0, .int .i64 0, .slice none 0 0, .slice none 0 0, .int .i64 0, .int .u64 0, .int .i64 0] := ⟨_, rfl⟩
  have hcsz : cs.size = 23 := by rw [hcs]; rfl
  have hone : cs.toList.all Value.oneCell' = true := by rw [hcs]; rfl
  rw [← hcs]
  have HONE := Lib.hid hone
  have HCS := Lib.hid hcs
  clear hone hcs
  go_upto_region 2 with (refine wpList_store_fresh rfl rfl 43 _ _ rfl (w2).heap.size ?_ rfl (cs).toList ?_ _ _ ?_ ?_ ?_ ?_; rfl; rfl; (rw [Array.length_toList, hcsz]; exact Tryd.sizeM); simp [hcsz]; exact HONE.out)
  change Code.wp _ _ _ _ (World.alloc w2 (.cells cs 43))
  have hkA := (Keeps.refl [] w2).alloc (.cells cs 43)
  have hX3 := hX2.keep hkA (by simp)
  have hE3 := hE.keep hkA
  have hk03 := hk02.trans hkA
  clear hX2 hk02 hkA hE
  generalize World.alloc w2 _ = w3 at *
  have hPb := Blk.fresh w3 66 #[.pointer none]
  have hkA := (Keeps.refl [] w3).alloc (.cells #[.pointer none] 66)
  have hX4 := hX3.keep hkA (by simp)
  have hE4 := hE3.keep hkA
  have hk04 := hk03.trans hkA
  have hpx : xb ≠ w3.heap.size := by have := hX3.lt; omega
  have hpw : w.heap.size ≤ w3.heap.size := hk03.size
  go_upto_region 3 with (fail)
  clear hX3 hk03 hkA hE3
  generalize World.alloc w3 _ = w4 at *
  generalize w3.heap.size = pb at *
  obtain ⟨q, i, rfl, hQ⟩ := hE4
  go_wp2_with fail
  refine (as_hit2 q pb (.pointer none) w4 (hk04.cellSome HG.out (by simp)) (hPb.cell 0) (hPb.free 0)).mono ?_
  rintro e w5 ⟨rfl, hk5⟩
  have hX5 := hX4.keep hk5 (by simpa using hpx)
  have hQ5 := hQ.keep hk5 (by simp; rintro rfl; exact absurd rfl (hQ.ne hPb (by decide)))
  have hk05 := hk04.step hk5 (fun x hx => by simp at hx; right; omega)
  clear hX4 hQ hk04 hk5 hPb
  have hqx : q ≠ xb := by rintro rfl; exact absurd rfl (hQ5.ne hX5 (by decide))
  go_wp2_with (first
    | (refine wpList_built rfl 43 _ rfl [] #[.int .i64 0, .int .i64 0, .int .i64 0, .int .u64 0, .int .u64 0, .int .u64 0, .slice none 0 0, .int .u64 0, .int .u64 0, .bool false, .int .i64 0, .slice none 0 0, .bool false, .int .u64 0, .int .u64 0, .string ⟨#[]⟩, .int .u64 0, .int .i64 0, .slice none 0 0, .slice none 0 0, .int .i64 0, .int .u64 0, .int .i64 0] built_Z2 rfl ?_)
    | (refine wpList_store_agg rfl rfl 43 _ _ rfl xb 0 ?_ ((#[.int .i64 0, .int .i64 0, .int .i64 0, .int .u64 0, .int .u64 0, .int .u64 0, .slice none 0 0, .int .u64 0, .int .u64 0, .bool false, .int .i64 0, .slice none 0 0, .bool false, .int .u64 0, .int .u64 0, .string ⟨#[]⟩, .int .u64 0, .int .i64 0, .slice none 0 0, .slice none 0 0, .int .i64 0, .int .u64 0, .int .i64 0] : Array Value).toList) ?_ 43 #[.int .i64 0, .int .i64 0, .int .i64 0, .int .u64 0, .int .u64 0, .int .u64 0, .slice none 0 0, .int .u64 0, .int .u64 0, .bool false, .int .i64 0, .slice none 0 0, .bool false, .int .u64 0, .int .u64 0, .string ⟨#[]⟩, .int .u64 0, .int .i64 0, .slice none 0 0, .slice none 0 0, .int .i64 0, .int .u64 0, .int .i64 0] hX5 Tryd.sizeM ?_ ?_ #[.int .i64 0, .int .i64 0, .int .i64 0, .int .u64 0, .int .u64 0, .int .u64 0, .slice none 0 0, .int .u64 0, .int .u64 0, .bool false, .int .i64 0, .slice none 0 0, .bool false, .int .u64 0, .int .u64 0, .string ⟨#[]⟩, .int .u64 0, .int .i64 0, .slice none 0 0, .slice none 0 0, .int .i64 0, .int .u64 0, .int .i64 0] ?_ ?_; rfl; rfl; simp; rfl; rfl; intro w6 hX6 hk6))
  exact bodyPost_ret (results_ct rfl rfl hX6 Tryd.underlying43 rfl Tryd.sizeM) rfl ⟨_, rfl, ⟨q, i, rfl, hQ5.keep hk6 (by simpa using hqx)⟩, hk05.step hk6 (fun x hx => by simp at hx; right; omega)⟩
end
end Go.Proofs.YtllcidpmdmacjaaDoor
/- A net: Drop, Copy, Find; Send where there is no room. -/

namespace Go.Proofs.YtllcidpmdmacjaaDoor
open Go.RowKit Go.Lib

section
variable {w : World} {N nb : Nat} {ao : Option Addr} {c : Nat} {fs : List Fl}

set_option maxRecDepth 100000 in
theorem ndrop (h : NetAt w N nb ao c fs) (k : Nat) (f : Fl) (hv : fs[k]? = some f) (hok : MsgOk f.b) (hl : f.b.length ≤ 100000000) :
    Calls Tryd.prog 10 #[.pointer (some ⟨nb, 0, none⟩), .int .i64 (k : Int)] w fun e w' => e = .returned .nilIface ∧ NetAt w' N nb ao c (fs.eraseIdx k) ∧ Keeps (nb :: blks ao) w w' := by
  have HP := Lib.hid (ntake h k f hv hok hl)
  obtain ⟨d, hd⟩ : ∃ d, d = (rdMsg ⟨f.b, 0, 0⟩).1 := ⟨_, rfl⟩
  rw [← hd] at HP
  clear h hv hok hl hd
  go_enter Tryd.func10, Tryd.ntmps10
  go_wp2_with fail
  refine HP.out.mono ?_
  rintro e w2 ⟨a2, rfl, hN2, hk2⟩
  obtain ⟨cs, hcs⟩ : ∃ cs, cs = msgCells d a2 := ⟨_, rfl⟩
  have hcsz : cs.size = 23 := by rw [hcs]; rfl
  have hone : cs.toList.all Value.oneCell' = true := by rw [hcs]; rfl
  rw [← hcs]
  have HONE := Lib.hid hone
  clear hcs hone HP
  go_upto_region 2 with (refine wpList_store_fresh rfl rfl 43 _ _ rfl (w2).heap.size ?_ rfl (cs).toList ?_ _ _ ?_ ?_ ?_ ?_; rfl; rfl; (rw [Array.length_toList, hcsz]; exact Tryd.sizeM); simp [hcsz]; exact HONE.out)
  change Code.wp _ _ _ _ (World.alloc w2 (.cells cs 43))
  have hkA := (Keeps.refl [] w2).alloc (.cells cs 43)
  have hN3 := hN2.keep0 hkA
  have hk3 := hk2.trans hkA.of_nil
  generalize World.alloc w2 _ = w3 at *
  go_wp2_with fail
  go_ret
  exact ⟨rfl, hN3, hk3⟩

set_option maxRecDepth 100000 in
theorem ndrop_no (h : NetAt w N nb ao c fs) (hg : (w).cell? ⟨0, 0, none⟩ = some (.iface 120 (.agg #[.pointer (some ⟨2, 31, none⟩)]))) (k : Int) (hk0 : k < 0 ∨ (fs.length : Int) ≤ k) :
    Calls Tryd.prog 10 #[.pointer (some ⟨nb, 0, none⟩), .int .i64 k] w fun e w' => ∃ ev, e = .returned ev ∧ ErrPl w' ev ∧ Keeps [] w w' := by
  have HP := Lib.hid (ntake_no h hg k hk0)
  clear h hk0 hg
  go_enter Tryd.func10, Tryd.ntmps10
  go_wp2_with fail
  refine HP.out.mono ?_
  rintro e w2 ⟨ev, rfl, hE, hk2⟩
  obtain ⟨cs, hcs⟩ : ∃ cs : Array Value, cs = #[.int .i64 0, .int .i64 0, .int .i64 0, .int .u64 0, .int .u64 0, .int .u64 0, .slice none 0 0, .int .u64 0, .int .u64 0, .bool false, .int .i64 0, .slice none 0 0, .bool false, .int .u64 0, .int .u64 0, .string ⟨#[]⟩, .int .u64 0, .int .i64 0, .slice none 0 0, .slice none 0 0, .int .i64 0, .int .u64 0, .int .i64 0] := ⟨_, rfl⟩
  have hcsz : cs.size = 23 := by rw [hcs]; rfl
  have hone : cs.toList.all Value.oneCell' = true := by rw [hcs]; rfl
  rw [← hcs]
  have HONE := Lib.hid hone
  clear hcs hone HP
  go_upto_region 2 with (refine wpList_store_fresh rfl rfl 43 _ _ rfl (w2).heap.size ?_ rfl (cs).toList ?_ _ _ ?_ ?_ ?_ ?_; rfl; rfl; (rw [Array.length_toList, hcsz]; exact Tryd.sizeM); simp [hcsz]; exact HONE.out)
  change Code.wp _ _ _ _ (World.alloc w2 (.cells cs 43))
  have hkA := (Keeps.refl [] w2).alloc (.cells cs 43)
  have hE3 := hE.keep hkA
  have hk3 := hk2.trans hkA
  generalize World.alloc w2 _ = w3 at *
  go_wp2_with fail
  go_ret
  exact ⟨ev, rfl, hE3, hk3⟩

set_option maxRecDepth 100000 in
theorem ncopy_no (h : NetAt w N nb ao c fs) (k : Int) (hk0 : k < 0 ∨ (fs.length : Int) ≤ k) :
    Calls Tryd.prog 11 #[.pointer (some ⟨nb, 0, none⟩), .int .i64 k] w fun e w' => ∃ ev, e = .returned ev ∧ ErrPl w' ev ∧ Keeps [] w w' := by
  have HP := Lib.hid (npeek_no h k hk0)
  clear h hk0
  go_enter Tryd.func11, Tryd.ntmps11
  go_wp2_with fail
  refine HP.out.mono ?_
  rintro e w2 ⟨ev, rfl, hE, hk2⟩
  obtain ⟨cs, hcs⟩ : ∃ cs : Array Value, cs = #[.int .i64 0, .int .i64 0, .int .i64 0, .int .u64 0, .int .u64 0, .int .u64 0, .slice none 0 0, .int .u64 0, .int .u64 0, .bool false, .int .i64 0, .slice none 0 0, .bool false, .int .u64 0, .int .u64 0, .string ⟨#[]⟩, .int .u64 0, .int .i64 0, .slice none 0 0, .slice none 0 0, .int .i64 0, .int .u64 0, .int .i64 0] := ⟨_, rfl⟩
  have hcsz : cs.size = 23 := by rw [hcs]; rfl
  have hone : cs.toList.all Value.oneCell' = true := by rw [hcs]; rfl
  rw [← hcs]
  have HONE := Lib.hid hone
  clear hcs hone HP
  go_upto_region 2 with (refine wpList_store_fresh rfl rfl 43 _ _ rfl (w2).heap.size ?_ rfl (cs).toList ?_ _ _ ?_ ?_ ?_ ?_; rfl; rfl; (rw [Array.length_toList, hcsz]; exact Tryd.sizeM); simp [hcsz]; exact HONE.out)
  change Code.wp _ _ _ _ (World.alloc w2 (.cells cs 43))
  have hkA := (Keeps.refl [] w2).alloc (.cells cs 43)
  have hE3 := hE.keep hkA
  have hk3 := hk2.trans hkA
  clear hE hk2 hkA
  generalize World.alloc w2 _ = w3 at *
  obtain ⟨q, i, rfl, hQ⟩ := hE3
  go_wp2_with fail
  refine (is_placed0 q 40 w3 (hQ.cell 1)).mono ?_
  rintro e w' ⟨rfl, hw⟩
  subst hw
  go_wp2_with fail
  go_ret
  exact ⟨_, rfl, ⟨q, i, rfl, hQ⟩, hk3⟩

set_option maxRecDepth 100000 in
theorem ncopy_full (h : NetAt w N nb ao c fs) (k : Nat) (f : Fl) (hv : fs[k]? = some f) (hok : MsgOk f.b) (hl : f.b.length ≤ 100000000) (hf : fs.length = 4096) :
    Calls Tryd.prog 11 #[.pointer (some ⟨nb, 0, none⟩), .int .i64 (k : Int)] w fun e w' => ∃ ev, e = .returned ev ∧ ErrIs w' ev 31 ∧ Keeps [] w w' := by
  have HP := Lib.hid (npeek h k f hv hok hl)
  obtain ⟨d, hd⟩ : ∃ d, d = (rdMsg ⟨f.b, 0, 0⟩).1 := ⟨_, rfl⟩
  rw [← hd] at HP
  clear hv hok hl hd
  go_enter Tryd.func11, Tryd.ntmps11
  go_wp2_with fail
  refine HP.out.mono ?_
  rintro e w2 ⟨a2, rfl, -, hk2⟩
  obtain ⟨cs, hcs⟩ : ∃ cs, cs = msgCells d a2 := ⟨_, rfl⟩
  have hcsz : cs.size = 23 := by rw [hcs]; rfl
  have hone : cs.toList.all Value.oneCell' = true := by rw [hcs]; rfl
  rw [← hcs]
  have HONE := Lib.hid hone
  clear hcs hone HP
  go_upto_region 2 with (refine wpList_store_fresh rfl rfl 43 _ _ rfl (w2).heap.size ?_ rfl (cs).toList ?_ _ _ ?_ ?_ ?_ ?_; rfl; rfl; (rw [Array.length_toList, hcsz]; exact Tryd.sizeM); simp [hcsz]; exact HONE.out)
  change Code.wp _ _ _ _ (World.alloc w2 (.cells cs 43))
  have hkA := (Keeps.refl [] w2).alloc (.cells cs 43)
  have h3 := (h.keep0 hk2).keep0 hkA
  have hk3 := hk2.trans hkA
  clear hk2 hkA h
  generalize World.alloc w2 _ = w3 at *
  go_wp2_with fail
  refine (is_nil 40 w3).mono ?_
  rintro e w' ⟨rfl, hw⟩
  subst hw
  go_wp2_with fail
  refine (nfull_no h3 hf).mono ?_
  rintro e w4 ⟨g, rfl, hE, hk4⟩
  go_wp2_with fail
  go_ret
  exact ⟨_, rfl, hE, hk3.trans hk4⟩

set_option maxRecDepth 100000 in
set_option maxHeartbeats 4000000 in
theorem nsend_full (h : NetAt w N nb ao c fs) (d : Md) (a : Ma) (hM : MsgAt w d a) (hd : d.Nums) (hmay : d.may = true) (hf : fs.length = 4096) :
    Calls Tryd.prog 6 #[.pointer (some ⟨nb, 0, none⟩), .agg (msgCells d a)] w fun e w' => ∃ ev, e = .returned ev ∧ ErrIs w' ev 31 ∧ Keeps [] w w' := by
  have P := fun W (hW : MsgAt W d a) => putMsg_any d a W hW hd
  obtain ⟨cs, hcs⟩ : ∃ cs, cs = msgCells d a := ⟨_, rfl⟩
  have hcsz : cs.size = 23 := by rw [hcs]; rfl
  rw [← hcs] at P
  rw [← hcs]
  simp only [hmay, if_true] at P
  have hB := Blk.fresh w 43 cs
  have hk := (Keeps.refl [] w).alloc (.cells cs 43)
  have h1 := h.keep0 hk
  have HP := Lib.hid (P _ (hM.keep hk))
  clear P hM h hcs hmay hd
  go_enter Tryd.func6, Tryd.ntmps6
  go_upto_region 1 with (fail)
  generalize World.alloc w _ = w1 at *
  generalize w.heap.size = mb at *
  go_wp2_with (refine wpList_load_agg rfl 43 _ rfl mb 0 23 ?_ 43 cs _ hB Tryd.underlying43 rfl Tryd.sizeM ?_ cs ?_ ?_; rfl; omega; exact take23 cs hcsz)
  refine HP.out.mono ?_
  rintro e w2 ⟨bo, bc, ev, rfl, hO, hE, hk2⟩
  obtain rfl := hE.zero.2 rfl
  have h2 := h1.keep0 hk2
  have hk02 := hk.trans hk2
  clear hB h1 hk hk2 hO hE HP
  go_wp2_with fail
  refine (nfull_no h2 hf).mono ?_
  rintro e w3 ⟨g, rfl, hE, hk3⟩
  go_wp2_with fail
  go_ret
  exact ⟨_, rfl, hE, hk02.trans hk3⟩
end
end Go.Proofs.YtllcidpmdmacjaaDoor
/- A net: Copy, Find. -/

namespace Go.Proofs.YtllcidpmdmacjaaDoor
open Go.RowKit Go.Lib

theorem rdsN {W : World} {nb : Nat} {v : Value} (h1 : W.cell? ⟨nb, 0, none⟩ = some v) : ∀ p ∈ [((4 : Nat), fun w0 : World => w0.cell? ⟨nb, 0, none⟩ = some v), ((8 : Nat), fun w0 : World => w0.cell? ⟨nb, 0, none⟩ = some v)], p.2 W := by
  intro p hp
  simp only [List.mem_cons, List.not_mem_nil, or_false] at hp
  rcases hp with rfl | rfl
  · exact h1
  · exact h1
theorem Tryd.sizeF : (Tryd.prog.info? 62).map (·.size) = some 3 := by kernel_rfl
/-- a struct out of a run of cells, as an operation of a region that draws -/
theorem load_yieldsR {P : Program} {w : World} {o : Oper} {a : Act} (ty : TypeId) (x : Operand) (ho : o.op = .load ty x) (b off : Nat) (hx : a.eval x = .pointer (some ⟨b, off, none⟩))
    (vs : List Value) (hc : ∀ j v, vs[j]? = some v → w.cell? ⟨b, off + j, none⟩ = some v) (d : TypeDesc) (hu : P.underlying ty = some d)
    (hd : (match d with | .struct _ | .array _ _ => true | _ => false) = true) (hsz : (P.info? ty).map (·.size) = some vs.length) : (execOp a.eval o).run P w = .ok (.value (.agg vs.toArray)) w := by
  have hl := run_loadCells_list (P := P) (w := w) ⟨b, off, none⟩ vs (fun j v hv => by
    have hadd : (⟨b, off, none⟩ : Addr).add j = ⟨b, off + j, none⟩ := by unfold Addr.add; split <;> simp_all
    rw [hadd]
    exact hc j v hv)
  have hr : (loadVar ty ⟨b, off, none⟩).run P w = .ok (.agg vs.toArray) w := by
    cases hq : P.info? ty with
    | none => simp [hq] at hsz
    | some i =>
      have hi : i.size = vs.length := by simpa [hq] using hsz
      have hagg : (isAgg ty).run P w = .ok true w := by
        unfold isAgg
        rw [Sem.run_bind, run_underlying hu w]
        cases d <;> simp_all
      simp [loadVar, Sem.run_bind, hagg, sizeOf, typeInfo, hq, hi, hl]
  unfold execOp
  simp only [ho, hx, Instr.loadAt, Instr.sureAddr, Sem.run_bind, Sem.run_pure, Result.andThen_ok, hr]

/-- an operation that yields a value, as one step of a region that draws -/
theorem step_yield {P : Program} {ops : Array Oper} {o : Oper} {a : Act} {w : World} {K : Act → World → Prop} {Q : Exit → Act → World → Prop} {E : Prop} (hg : o.guard = none) (v : Value)
    (hy : (execOp a.eval o).run P w = .ok (.value v) w) (h : K (a.put o.dst v) w) : if Region.wanted o (yielded ops a.tmps) = true then Oper.wp P o a w K Q else E := by
  have hw : Region.wanted o (yielded ops a.tmps) = true := by simp [Region.wanted, hg]
  rw [if_pos hw]
  unfold Oper.wp
  simp only [hy, Oper.upon]
  exact h

section
variable {w : World} {N nb : Nat} {ao : Option Addr} {c : Nat} {fs : List Fl}
/-- the k-th message in flight, as a run of three cells -/
theorem NetAt.run (h : NetAt w N nb ao c fs) {k : Nat} {f : Fl} (hv : fs[k]? = some f) {g : Nat} (hg : ao = some ⟨g, 0, none⟩) : ∀ j v, f.cells.toList[j]? = some v → w.cell? ⟨g, k * 3 + j, none⟩ = some v := by
  intro j v hj
  have hS := sl_of_own h.ol (fls_one fs)
  have hj3 : j < 3 := by
    have := (List.getElem?_eq_some_iff.1 hj).1
    simpa using this
  have := hS.cell _ hg _ v ((flat_at _ 3 (fun _ => rfl) fs k j f hv hj3).trans hj)
  simpa using this

set_option maxRecDepth 100000 in
set_option maxHeartbeats 4000000 in
theorem ncopy (h : NetAt w N nb ao c fs) (k : Nat) (f : Fl) (hv : fs[k]? = some f) (hok : MsgOk f.b) (hl : f.b.length ≤ 100000000) (hf : fs.length < 4096) :
    Calls Tryd.prog 11 #[.pointer (some ⟨nb, 0, none⟩), .int .i64 (k : Int)] w fun e w' => ∃ ao' c', e = .returned .nilIface ∧ NetAt w' N nb ao' c' (fs ++ [f]) ∧ (∀ x ∈ blks ao', x ∈ blks ao ∨ w.heap.size ≤ x) ∧ Keeps (nb :: blks ao) w w' := by
  obtain ⟨i, z, hi, hz, hsz, hby, hzc⟩ := infoF
  have hkl := (List.getElem?_eq_some_iff.1 hv).1
  have HP := Lib.hid (npeek h k f hv hok hl)
  obtain ⟨d, hd⟩ : ∃ d, d = (rdMsg ⟨f.b, 0, 0⟩).1 := ⟨_, rfl⟩
  rw [← hd] at HP
  have HV := Lib.hid hv
  have hmem := List.mem_of_getElem? hv
  obtain ⟨g, hg0, hgN⟩ := h.ao0 (by omega)
  have HRUN := Lib.hid (fun W (x : NetAt W N nb ao c fs) => x.run hv hg0)
  subst hg0
  clear hok hl hd hv
  have n2 : (k : Int) < (fs.length : Int) := by omega
  have n3 : (0 : Int) ≤ (k : Int) := by omega
  go_enter Tryd.func11, Tryd.ntmps11
  go_wp2_with fail
  refine HP.out.mono ?_
  rintro e w2 ⟨a2, rfl, -, hk2⟩
  obtain ⟨cs, hcs⟩ : ∃ cs, cs = msgCells d a2 := ⟨_, rfl⟩
  have hcsz : cs.size = 23 := by rw [hcs]; rfl
  have hone : cs.toList.all Value.oneCell' = true := by rw [hcs]; rfl
  rw [← hcs]
  have HONE := Lib.hid hone
  clear hcs hone HP
  go_upto_region 2 with (refine wpList_store_fresh rfl rfl 43 _ _ rfl (w2).heap.size ?_ rfl (cs).toList ?_ _ _ ?_ ?_ ?_ ?_; rfl; rfl; (rw [Array.length_toList, hcsz]; exact Tryd.sizeM); simp [hcsz]; exact HONE.out)
  change Code.wp _ _ _ _ (World.alloc w2 (.cells cs 43))
  have hkA := (Keeps.refl [] w2).alloc (.cells cs 43)
  have h3 := (h.keep0 hk2).keep0 hkA
  have hk3 := hk2.trans hkA
  clear hk2 hkA h
  generalize World.alloc w2 _ = w3 at *
  go_wp2_with fail
  refine (is_nil 40 w3).mono ?_
  rintro e w' ⟨rfl, hw⟩
  subst hw
  go_wp2_with fail
  refine (nfull_ok h3 hf).mono ?_
  rintro e w' ⟨rfl, hw⟩
  obtain rfl := hw.symm
  clear hw
  go_upto_region 7 with (fail)
  have e0 : ∀ W, Blk W nb 54 #[.slice (some ⟨g, 0, none⟩) fs.length c] → W.cell? ⟨nb, 0, none⟩ = some (.slice (some ⟨g, 0, none⟩) fs.length c) := fun W h => h.cell 0
  have HE := Lib.hid e0
  have hN3 := h3.keep0 ((Keeps.refl [] w3).drew)
  have hk03 := hk3.drew
  have hSw := rdsN (e0 _ hN3.bn)
  clear e0 h3 hk3
  refine startU [((4 : Nat), fun w0 : World => w0.cell? ⟨nb, 0, none⟩ = some (.slice (some ⟨g, 0, none⟩) fs.length c)), ((8 : Nat), fun w0 : World => w0.cell? ⟨nb, 0, none⟩ = some (.slice (some ⟨g, 0, none⟩) fs.length c))] (by kernel_rfl) ?_
  refine takeU (i := 0) (v := ?_) rfl (by kernel_rfl) (fun _ _ _ h => h) (Or.inl ⟨by rfl, fun w0 hw0 => ?_⟩) (fun p hp _ => hSw p hp) ?_
  rotate_left
  · simp [Reads] at hw0
    go_simp
    try with_reducible rfl
  try go_simp
  refine takeU (i := 1) (v := ?_) rfl (by kernel_rfl) (fun _ _ _ h => h) (Or.inl ⟨by rfl, fun w0 hw0 => ?_⟩) (fun p hp _ => hSw p hp) ?_
  rotate_left
  · simp [Reads] at hw0
    go_simp
    try with_reducible rfl
  try go_simp
  refine takeU (i := 2) (v := ?_) rfl (by kernel_rfl) (fun _ _ _ h => h) (Or.inl ⟨by rfl, fun w0 hw0 => ?_⟩) (fun p hp _ => hSw p hp) ?_
  rotate_left
  · simp [Reads] at hw0
    go_simp
    try with_reducible rfl
  try go_simp
  refine takeU (i := 3) (v := ?_) rfl (by kernel_rfl) (fun _ _ _ h => h) (Or.inl ⟨by rfl, fun w0 hw0 => ?_⟩) (fun p hp _ => hSw p hp) ?_
  rotate_left
  · simp [Reads] at hw0
    go_simp
    try with_reducible rfl
  try go_simp
  refine takeU (i := 4) (v := ?_) rfl (by kernel_rfl) (fun _ _ _ h => h) (Or.inl ⟨by rfl, fun w0 hw0 => ?_⟩) (fun p hp _ => hSw p hp) ?_
  rotate_left
  · simp [Reads] at hw0
    go_simp
    try with_reducible rfl
  try go_simp
  refine takeU (i := 5) (v := ?_) rfl (by kernel_rfl) (fun _ _ _ h => h) (Or.inl ⟨by rfl, fun w0 hw0 => ?_⟩) (fun p hp _ => hSw p hp) ?_
  rotate_left
  · simp [Reads] at hw0
    go_simp
    try with_reducible rfl
  try go_simp
  refine takeU (i := 6) (v := ?_) rfl (by kernel_rfl) (fun _ _ _ h => h) (Or.inl ⟨by rfl, fun w0 hw0 => ?_⟩) (fun p hp _ => hSw p hp) ?_
  rotate_left
  · simp [Reads] at hw0
    go_simp
    try with_reducible rfl
  try go_simp
  refine takeU (i := 7) (v := ?_) rfl (by kernel_rfl) (fun _ _ _ h => h) (Or.inl ⟨by rfl, fun w0 hw0 => ?_⟩) (fun p hp _ => hSw p hp) ?_
  rotate_left
  · simp [Reads] at hw0
    go_simp
    try with_reducible rfl
  try go_simp
  refine takeU (i := 8) (v := ?_) rfl (by kernel_rfl) (fun _ _ _ h => h) (Or.inl ⟨by rfl, fun w0 hw0 => ?_⟩) (fun p hp _ => hSw p hp) ?_
  rotate_left
  · simp [Reads] at hw0
    go_simp
    try with_reducible rfl
  try go_simp
  refine takeU (i := 9) (v := ?_) rfl (by kernel_rfl) (fun _ _ _ h => h) (Or.inl ⟨by rfl, fun w0 hw0 => ?_⟩) (fun p hp _ => hSw p hp) ?_
  rotate_left
  · simp [Reads] at hw0
    go_simp
    try with_reducible rfl
  try go_simp
  refine takeU (i := 10) (v := ?_) rfl (by kernel_rfl) (fun _ _ _ h => h) (Or.inl ⟨by rfl, fun w0 hw0 => ?_⟩) (fun p hp _ => hSw p hp) ?_
  rotate_left
  · simp [Reads] at hw0
    go_simp
    try with_reducible rfl
  try go_simp
  refine oneU (i := 11) rfl (by kernel_rfl) (fun K hK => ?_)
  refine step_yield rfl (.agg f.cells) (load_yieldsR 62 (.tmp 33) rfl g (k * 3) rfl f.cells.toList (HRUN.out _ hN3) _ Tryd.underlying62 rfl Tryd.sizeF) ?_
  refine hK _ _ (fun p hp _ _ => hSw p hp) ?_
  clear hK K
  refine oneU (i := 12) rfl (by kernel_rfl) (fun K hK => ?_)
  refine step_slice1 rfl 52 62 _ rfl i z (.agg f.cells) 3 Tryd.underlying52 hi hz hsz rfl rfl (by omega) (by omega) ?_
  have hkA := (Keeps.refl [] w3.drew).alloc (.cells f.cells 62)
  have hT : Sl (w3.drew.alloc (.cells f.cells 62)) 3 (some ⟨w3.drew.heap.size, 0, none⟩) 1 1 f.cells.toList := Sl.of_blk (Blk.fresh _ _ _) rfl (by decide) (by simp [Value.oneCell'])
  have hN4 := hN3.keep0 hkA
  have hk04 := hk03.trans hkA
  refine hK _ _ (fun p hp _ _ => rdsN (HE.out _ hN4.bn) p hp) ?_
  clear hK K hkA hN3 hk03 hSw
  change wpAnyU _ _ _ _ _ _ _ _ (World.alloc (World.drew w3) (.cells f.cells 62))
  generalize World.alloc (World.drew w3) _ = w4 at *
  try go_simp
  refine oneU (i := 13) rfl (by kernel_rfl) (fun K hK => ?_)
  refine step_append_by rfl _ _ 52 52 rfl N 62 i z 3 40 Tryd.underlying52 hi hz hsz hby hzc (some ⟨g, 0, none⟩) _ c _ rfl hN4.ol _ rfl 1 _ (hT.src Tryd.underlying52) (by unfold maxLen; omega) (by omega) hN4.nw ?_
  intro a5 c5 w5 hO5 hk5 hb5
  have hn5 : Blk w5 nb 54 #[.slice (some ⟨g, 0, none⟩) fs.length c] := hN4.bn.keep hk5 (fun hx => ownsRow_ne hN4.ol hN4.bn (by decide) nb hx rfl)
  have ho5 : ∀ f ∈ fs, Own w5 N f.a f.c f.b := fun f hf => (hN4.ob f hf).keep hk5 (ownsRow_apart (hN4.ob f hf) hN4.ol (by decide))
  have hk05 : Keeps [nb, g] w w5 := hk04.of_nil.step hk5 (fun x hx => .inl (List.mem_cons_of_mem _ hx))
  have hsz5 : N ≤ w5.heap.size := Nat.le_trans hN4.nw hk5.size
  have hge := hN4.ge
  have hw4 := hk04.size
  have hb6 : ∀ x ∈ blks a5, x ∈ [g] ∨ w.heap.size ≤ x := by
    intro x hx
    cases a5 with
    | none => simp at hx
    | some ad =>
      simp only [blks, List.mem_singleton] at hx
      subst hx
      rcases hb5 ad rfl with h | h
      · exact .inl h
      · right
        omega
  refine hK _ _ (fun p hp _ _ => rdsN (HE.out _ hn5) p hp) ?_
  clear hK K hN4 hk04 hk5 hb5 hT
  try go_simp
  have hSw := rdsN (HE.out _ hn5)
  refine takeU (i := 14) (v := ?_) rfl (by kernel_rfl) (fun _ _ _ h => h) (Or.inl ⟨by rfl, fun w0 hw0 => ?_⟩) (fun p hp _ => hSw p hp) ?_
  rotate_left
  · simp [Reads] at hw0
    go_simp
    try with_reducible rfl
  try go_simp
  refine takeU (i := 15) (v := ?_) rfl (by kernel_rfl) (fun _ _ _ h => h) (Or.inl ⟨by rfl, fun w0 hw0 => ?_⟩) (fun p hp _ => hSw p hp) ?_
  rotate_left
  · simp [Reads] at hw0
    go_simp
    try with_reducible rfl
  try go_simp
  have hcn := hn5.cell
  have hfn := hn5.free
  have hln := hn5.lt
  refine oneU (i := 16) rfl (by kernel_rfl) (fun K hK => ?_)
  go_simp
  refine hK _ _ (fun p hp h1 _ => by simp only [List.mem_cons, List.not_mem_nil, or_false] at hp; rcases hp with rfl | rfl <;> exact waits_absurd h1 (by kernel_rfl)) ?_
  clear hK K hcn hfn hln hSw
  refine doneU (by kernel_rfl) ?_
  have hks : Keeps [nb] w5 (w5.setCell ⟨nb, 0, none⟩ (.slice a5 (fs.length + 1) c5)) := (Keeps.refl [nb] w5).set (p := ⟨nb, 0, none⟩) (by simp) _
  have hn6 := (hn5.put 0 (.slice a5 (fs.length + 1) c5)).eq (cs' := #[.slice a5 (fs.length + 1) c5]) (by simp)
  generalize World.setCell w5 _ _ = w6 at *
  have ol6 := own_of_one hO5 hn5 (by decide) hks
  have ob6 : ∀ f ∈ fs, Own w6 N f.a f.c f.b := fun f hf => own_of_one (ho5 f hf) hn5 (by decide) hks
  have hk06 : Keeps [nb, g] w w6 := hk05.step hks (fun x hx => .inl (by simp at hx; subst hx; exact List.mem_cons_self))
  clear hO5 ho5 hk05 hn5
  have hs6 := hks.size
  go_wp2_with fail
  go_ret
  refine ⟨rfl, a5, ⟨c5, ⟨by rw [List.length_append]; exact hn6, by rw [List.length_append, fls_append]; exact ol6, ?_, hge, by rw [List.length_append]; simp; omega, by omega⟩⟩, fun x hx => by simpa using hb6 x hx, hk06⟩
  intro f' hf'
  rcases List.mem_append.1 hf' with h | h
  · exact ob6 f' h
  · simp only [List.mem_singleton] at h
    subst h
    exact ob6 f' hmem

/-- the closure that Find hands on -/
theorem nfind1 (f : Fl) (p q : Nat) (x y : Int) (w : World) (hp : Blk w p 3 #[.int .i64 x]) (hq : Blk w q 3 #[.int .i64 y]) :
    Calls Tryd.prog 21 #[.agg f.cells, .pointer (some ⟨p, 0, none⟩), .pointer (some ⟨q, 0, none⟩)] w fun e w' => e = .returned (.bool (decide (f.src = x) && decide (f.dst = y))) ∧ Keeps [] w w' := by
  obtain ⟨r, hr⟩ : ∃ r, r = (decide (f.src = x) && decide (f.dst = y)) := ⟨_, rfl⟩
  rw [← hr]
  have HR := Lib.hid hr
  clear hr
  have hk := (Keeps.refl [] w).alloc (.cells f.cells 62)
  have hp1 := hp.alloc (.cells f.cells 62)
  have hq1 := hq.alloc (.cells f.cells 62)
  have hX := Blk.fresh w 62 f.cells
  go_enter Tryd.func21, Tryd.ntmps21
  go_upto_region 1 with (fail)
  generalize World.alloc w _ = w1 at *
  generalize w.heap.size = xb at *
  have hcp := hp1.cell
  have hlp := hp1.lt
  have hcq := hq1.cell
  have hlq := hq1.lt
  have hcX := hX.cell
  have hlX := hX.lt
  by_cases h1 : f.src = x
  · by_cases h2 : f.dst = y
    · have e0 := Lib.hid (show r = true by rw [HR.out]; simp [h1, h2])
      have e1 : (f.src == x) = true := by simp [h1]
      have e2 : (f.dst == y) = true := by simp [h2]
      clear h1 h2 HR
      go_wp2_with fail
      go_ret
      exact ⟨by rw [e0.out]; rfl, hk⟩
    · have e0 := Lib.hid (show r = false by rw [HR.out]; simp [h2])
      have e1 : (f.src == x) = true := by simp [h1]
      have e2 : (f.dst == y) = false := by simp [h2]
      clear h1 h2 HR
      go_wp2_with fail
      go_ret
      exact ⟨by rw [e0.out]; rfl, hk⟩
  · have e0 := Lib.hid (show r = false by rw [HR.out]; simp [h1])
    have e1 : (f.src == x) = false := by simp [h1]
    clear h1 HR
    go_wp2_with fail
    go_ret
    exact ⟨by rw [e0.out]; rfl, hk⟩
end
end Go.Proofs.YtllcidpmdmacjaaDoor
/- The laws of nets: their messages; known. -/

namespace Go.Proofs.YtllcidpmdmacjaaDoor
open Go.RowKit Go.Lib

/-- the laws' message -/
def msgD (k tn : Int) (seq : Nat) : Md := ⟨k, 1, tn, 0, 0, 0, [], 0, 0, false, 0, [], false, 0, seq, ⟨#[]⟩, 0, 0, [], [], 0, 0, 0⟩
theorem msgD_cells (k tn : Int) (seq : Nat) : msgCells (msgD k tn seq) zeroMa = #[.int .i64 (k), .int .i64 1, .int .i64 (tn), .int .u64 0, .int .u64 0, .int .u64 0, .slice none 0 0, .int .u64 0, .int .u64 0, .bool false, .int .i64 0, .slice none 0 0, .bool false, .int .u64 0, .int .u64 ((seq : Nat)), .string ⟨#[]⟩, .int .u64 0, .int .i64 0, .slice none 0 0, .slice none 0 0, .int .i64 0, .int .u64 0, .int .i64 0] := rfl
theorem msgD_at (w : World) (k tn : Int) (seq : Nat) : MsgAt w (msgD k tn seq) zeroMa := ⟨Sl.none _ _, Sl.none _ _, Sl.none _ _, [], rfl, Sl.none _ _, fun _ h => by cases h⟩
theorem msgD_nums (k tn : Int) (seq : Nat) (h : seq < 18446744073709551616) : (msgD k tn seq).Nums := by
  constructor
  all_goals first | (intro x hx; cases hx) | (simp only [msgD]; omega)
theorem msgD_may (tn : Int) (seq : Nat) (h0 : -1 ≤ tn) (h1 : tn ≤ 1000) : (msgD 1 tn seq).may = true := by
  unfold Md.may Md.own inB msgD
  simp [h0, h1]
  show (0 : Nat) ≤ 2000
  omega
theorem msgD_len (tn : Int) (seq : Nat) (h0 : -1 ≤ tn) (h1 : tn ≤ 1000) (h : seq < 18446744073709551616) : (putMd (msgD 1 tn seq)).length ≤ 3000 := by
  have u1 := us_len [((1 : Int) + 1).toNat, (tn + 1).toNat, ((0 : Int) + 1).toNat, 0, 0, 0, 0, 0, (0 : Int).toNat, 0, seq] (by intro n h; simp at h; omega)
  have u2 := us_len [0] (by intro n h; simp at h; omega)
  have u4 := us_len [0, (0 : Int).toNat, 0, (0 : Int).toNat, 0] (by intro n h; simp at h; omega)
  have e4 := txt_len ⟨#[]⟩ (by show (0 : Nat) ≤ 2000; omega)
  simp only [List.length_cons, List.length_nil] at u1 u2 u4
  unfold putMd putHd msgD esB colB rowB
  simp only [List.length_append, List.length_cons, List.length_nil, List.map_nil, List.flatten_nil] at *
  omega
/-- a law's message in flight -/
def Good (f : Fl) (tn : Int) (seq : Nat) : Prop := f.b = putMd (msgD 1 tn seq) ∧ f.src = 1 ∧ f.dst = tn ∧ -1 ≤ tn ∧ tn ≤ 1000 ∧ seq < 18446744073709551616
theorem Good.rd {f : Fl} {tn : Int} {seq : Nat} (h : Good f tn seq) : MsgOk f.b ∧ (rdMsg ⟨f.b, 0, 0⟩).1 = msgD 1 tn seq ∧ f.b.length ≤ 100000000 := by
  obtain ⟨hb, _, _, h0, h1, h2⟩ := h
  obtain ⟨n, hr⟩ := msg_put (msgD 1 tn seq) (msgD_may tn seq h0 h1) (msgD_nums 1 tn seq h2) (fun l hl => by cases hl)
  have hl := msgD_len tn seq h0 h1 h2
  rw [hb]
  unfold MsgOk
  rw [hr]
  exact ⟨⟨rfl, rfl, msgD_may tn seq h0 h1, rfl⟩, rfl, by omega⟩

theorem built_L (tn seq : Int) : Tryd.prog.built 43 [(0, .int .i64 1), (1, .int .i64 1), (2, .int .i64 tn), (14, .int .u64 seq)] = some #[.int .i64 (1), .int .i64 1, .int .i64 (tn), .int .u64 0, .int .u64 0, .int .u64 0, .slice none 0 0, .int .u64 0, .int .u64 0, .bool false, .int .i64 0, .slice none 0 0, .bool false, .int .u64 0, .int .u64 (seq), .string ⟨#[]⟩, .int .u64 0, .int .i64 0, .slice none 0 0, .slice none 0 0, .int .i64 0, .int .u64 0, .int .i64 0] := by kernel_rfl

set_option maxRecDepth 100000 in
theorem lmsg_any (what i tn : Int) (seq : Nat) (bad : Bool) (w : World) :
    Calls Tryd.prog 7 #[.agg #[.int .i64 what, .int .i64 i, .int .i64 tn, .int .u64 (seq : Nat), .bool bad]] w fun e w' => e = .returned (.agg (msgCells (msgD (if bad then 0 else 1) tn seq) zeroMa)) ∧ Keeps [] w w' := by
  rw [msgD_cells]
  obtain ⟨cs, hcs⟩ : ∃ cs : Array Value, cs = #[.int .i64 (1), .int .i64 1, .int .i64 (tn), .int .u64 0, .int .u64 0, .int .u64 0, .slice none 0 0, .int .u64 0, .int .u64 0, .bool false, .int .i64 0, .slice none 0 0, .bool false, .int .u64 0, .int .u64 ((seq : Nat)), .string ⟨#[]⟩, .int .u64 0, .int .i64 0, .slice none 0 0, .slice none 0 0, .int .i64 0, .int .u64 0, .int .i64 0] := ⟨_, rfl⟩
  have hcsz : cs.size = 23 := by rw [hcs]; rfl
  have hone : cs.toList.all Value.oneCell' = true := by rw [hcs]; rfl
  have hbl : Tryd.prog.built 43 [(0, .int .i64 1), (1, .int .i64 1), (2, .int .i64 tn), (14, .int .u64 (seq : Nat))] = some cs := by rw [hcs]; exact built_L tn seq
  obtain ⟨ds, hds⟩ : ∃ ds : Array Value, ds = #[.int .i64 ((if bad then 0 else 1)), .int .i64 1, .int .i64 (tn), .int .u64 0, .int .u64 0, .int .u64 0, .slice none 0 0, .int .u64 0, .int .u64 0, .bool false, .int .i64 0, .slice none 0 0, .bool false, .int .u64 0, .int .u64 ((seq : Nat)), .string ⟨#[]⟩, .int .u64 0, .int .i64 0, .slice none 0 0, .slice none 0 0, .int .i64 0, .int .u64 0, .int .i64 0] := ⟨_, rfl⟩
  have hset : cs.setIfInBounds 0 (.int .i64 0) = #[.int .i64 (0), .int .i64 1, .int .i64 (tn), .int .u64 0, .int .u64 0, .int .u64 0, .slice none 0 0, .int .u64 0, .int .u64 0, .bool false, .int .i64 0, .slice none 0 0, .bool false, .int .u64 0, .int .u64 ((seq : Nat)), .string ⟨#[]⟩, .int .u64 0, .int .i64 0, .slice none 0 0, .slice none 0 0, .int .i64 0, .int .u64 0, .int .i64 0] := by rw [hcs]; rfl
  have hdsz : ds.size = 23 := by rw [hds]; rfl
  have hdone : ds.toList.all Value.oneCell' = true := by rw [hds]; rfl
  rw [← hds]
  have HCS := Lib.hid hcs
  have HDS := Lib.hid hds
  have HB := Lib.hid hbl
  have HO := Lib.hid (And.intro hone hdone)
  have HS := Lib.hid hset
  have hS := (Blk.fresh w 29 #[.int .i64 what, .int .i64 i, .int .i64 tn, .int .u64 (seq : Nat), .bool bad]).alloc (.cells #[.int .i64 0, .int .i64 0, .int .i64 0, .int .u64 0, .int .u64 0, .int .u64 0, .slice none 0 0, .int .u64 0, .int .u64 0, .bool false, .int .i64 0, .slice none 0 0, .bool false, .int .u64 0, .int .u64 0, .string ⟨#[]⟩, .int .u64 0, .int .i64 0, .slice none 0 0, .slice none 0 0, .int .i64 0, .int .u64 0, .int .i64 0] 43)
  have hX := Blk.fresh_at (w.alloc (.cells #[.int .i64 what, .int .i64 i, .int .i64 tn, .int .u64 (seq : Nat), .bool bad] 29)) 43 #[.int .i64 0, .int .i64 0, .int .i64 0, .int .u64 0, .int .u64 0, .int .u64 0, .slice none 0 0, .int .u64 0, .int .u64 0, .bool false, .int .i64 0, .slice none 0 0, .bool false, .int .u64 0, .int .u64 0, .string ⟨#[]⟩, .int .u64 0, .int .i64 0, .slice none 0 0, .slice none 0 0, .int .i64 0, .int .u64 0, .int .i64 0] (n := w.heap.size + 1) (by simp)
  have hk := ((Keeps.refl [] w).alloc (.cells #[.int .i64 what, .int .i64 i, .int .i64 tn, .int .u64 (seq : Nat), .bool bad] 29)).alloc (.cells #[.int .i64 0, .int .i64 0, .int .i64 0, .int .u64 0, .int .u64 0, .int .u64 0, .slice none 0 0, .int .u64 0, .int .u64 0, .bool false, .int .i64 0, .slice none 0 0, .bool false, .int .u64 0, .int .u64 0, .string ⟨#[]⟩, .int .u64 0, .int .i64 0, .slice none 0 0, .slice none 0 0, .int .i64 0, .int .u64 0, .int .i64 0] 43)
  have hxw : w.heap.size ≤ w.heap.size + 1 := by omega
  clear hcs hds hone hdone hbl hset
  go_enter Tryd.func7, Tryd.ntmps7
  go_upto_region 1 with (fail)
  generalize World.alloc (World.alloc w _) _ = w1 at *
  generalize w.heap.size + 1 = xb at *
  generalize hsw : w.heap.size = sb at *
  have hcS := hS.cell
  have hlS := hS.lt
  go_upto_region 2 with (first
    | (refine wpList_built rfl 43 _ rfl _ _ HB.out ?_ ?_; rfl)
    | (refine wpList_store_fresh rfl rfl 43 _ _ rfl (w1).heap.size ?_ rfl (cs).toList ?_ _ _ ?_ ?_ ?_ ?_; rfl; rfl; (rw [Array.length_toList, hcsz]; exact Tryd.sizeM); simp [hcsz]; exact HO.out.1))
  change Code.wp _ _ _ _ (World.alloc w1 (.cells cs 43))
  have hY := Blk.fresh w1 43 cs
  have hS2 := hS.alloc (.cells cs 43)
  have hX2 := hX.alloc (.cells cs 43)
  have hk2 := hk.alloc (.cells cs 43)
  have hyx : w1.heap.size ≠ xb := by have := hX.lt; omega
  have hyw : sb ≤ w1.heap.size := by rw [← hsw]; exact hk.size
  clear hS hX hk hcS hlS
  generalize World.alloc w1 _ = w2 at *
  generalize w1.heap.size = yb at *
  have hcS := hS2.cell
  have hlS := hS2.lt
  have hlY := hY.lt
  have hfY := hY.free
  cases bad with
  | false =>
    have he : ds = cs := by rw [HDS.out, HCS.out]; rfl
    go_wp2_with (first
      | (refine wpList_load_agg rfl 43 _ rfl yb 0 23 ?_ 43 cs _ hY Tryd.underlying43 rfl Tryd.sizeM ?_ cs ?_ ?_; rfl; omega; exact take23 cs hcsz)
      | (refine wpList_store_agg rfl rfl 43 _ _ rfl xb 0 ?_ (cs).toList ?_ 43 #[.int .i64 0, .int .i64 0, .int .i64 0, .int .u64 0, .int .u64 0, .int .u64 0, .slice none 0 0, .int .u64 0, .int .u64 0, .bool false, .int .i64 0, .slice none 0 0, .bool false, .int .u64 0, .int .u64 0, .string ⟨#[]⟩, .int .u64 0, .int .i64 0, .slice none 0 0, .slice none 0 0, .int .i64 0, .int .u64 0, .int .i64 0] hX2 ?_ ?_ ?_ cs ?_ ?_; rfl; rfl; (rw [Array.length_toList, hcsz]; exact Tryd.sizeM); (rw [Array.length_toList, hcsz]; simp); exact HO.out.1; exact store23 cs hcsz; intro wS hXS hkS))
    exact bodyPost_ret (results_c rfl rfl hXS Tryd.underlying43 rfl (by rw [hcsz]; exact Tryd.sizeM)) rfl ⟨by rw [he], hk2.step hkS (fun x hx => by simp at hx; right; omega)⟩
  | true =>
    have he : cs.setIfInBounds 0 (.int .i64 0) = ds := by rw [HS.out, HDS.out]; rfl
    have hcY : w2.cell? ⟨yb, 0, none⟩ = some (.int .i64 1) := by rw [hY.cell, HCS.out]; rfl
    go_upto_region 4 with (fail)
    have hY3 := (hY.put 0 (.int .i64 0)).eq he
    have hks : Keeps [yb] w2 (w2.setCell ⟨yb, 0, none⟩ (.int .i64 0)) := (Keeps.refl [yb] w2).set (p := ⟨yb, 0, none⟩) (by simp) _
    have hX3 := hX2.keep hks (by simpa using fun e => hyx e.symm)
    have hk3 := hk2.step hks (fun x hx => by simp at hx; right; omega)
    clear hcY hfY hlY hY hcS hlS hX2 hk2 hS2
    generalize World.setCell w2 _ _ = w3 at *
    go_wp2_with (first
      | (refine wpList_load_agg rfl 43 _ rfl yb 0 23 ?_ 43 ds _ hY3 Tryd.underlying43 rfl Tryd.sizeM ?_ ds ?_ ?_; rfl; omega; exact take23 ds hdsz)
      | (refine wpList_store_agg rfl rfl 43 _ _ rfl xb 0 ?_ (ds).toList ?_ 43 #[.int .i64 0, .int .i64 0, .int .i64 0, .int .u64 0, .int .u64 0, .int .u64 0, .slice none 0 0, .int .u64 0, .int .u64 0, .bool false, .int .i64 0, .slice none 0 0, .bool false, .int .u64 0, .int .u64 0, .string ⟨#[]⟩, .int .u64 0, .int .i64 0, .slice none 0 0, .slice none 0 0, .int .i64 0, .int .u64 0, .int .i64 0] hX3 ?_ ?_ ?_ ds ?_ ?_; rfl; rfl; (rw [Array.length_toList, hdsz]; exact Tryd.sizeM); (rw [Array.length_toList, hdsz]; simp); exact HO.out.2; exact store23 ds hdsz; intro wS hXS hkS))
    exact bodyPost_ret (results_c rfl rfl hXS Tryd.underlying43 rfl (by rw [hdsz]; exact Tryd.sizeM)) rfl ⟨rfl, hk3.step hkS (fun x hx => by simp at hx; right; omega)⟩
end Go.Proofs.YtllcidpmdmacjaaDoor
/- Nets of the laws' messages, as lists of (to, seq). -/

namespace Go.Proofs.YtllcidpmdmacjaaDoor
open Go.RowKit Go.Lib

/-- what a net's methods leave: all that is older than it, and all that is no net and no list of one -/
structure NFr (N : Nat) (w w' : World) : Prop where
  os : w'.os = w.os
  tape : w'.tape = w.tape
  output : w'.output = w.output
  size : w.heap.size ≤ w'.heap.size
  block : ∀ k, k < w.heap.size → (k < N ∨ ∀ cs t fr, w.heap[k]? = some (.cells cs t fr) → t ≠ 54 ∧ t ≠ 62) → w'.heap[k]? = w.heap[k]?
section
variable {N : Nat} {w0 w w' w'' : World}
theorem NFr.of0 (h : Keeps [] w w') : NFr N w w' := ⟨h.os, h.tape, h.output, h.size, fun k hk _ => h.block k hk (by simp)⟩
theorem NFr.trans (h : NFr N w w') (h' : NFr N w' w'') : NFr N w w'' :=
  ⟨h'.os.trans h.os, h'.tape.trans h.tape, h'.output.trans h.output, Nat.le_trans h.size h'.size, fun k hk hc => (h'.block k (Nat.lt_of_lt_of_le hk h.size) (by rw [h.block k hk hc]; exact hc)).trans (h.block k hk hc)⟩
theorem NFr.keeps (h : NFr N w w') (hk : Keeps [] w0 w) (hN : w0.heap.size ≤ N) : Keeps [] w0 w' :=
  ⟨h.os.trans hk.os, h.tape.trans hk.tape, h.output.trans hk.output, Nat.le_trans hk.size h.size, fun k hk0 hn => (h.block k (Nat.lt_of_lt_of_le hk0 hk.size) (.inl (by omega))).trans (hk.block k hk0 hn)⟩
theorem NFr.blk (h : NFr N w w') {b : Nat} {t : TypeId} {cs : Array Value} (hB : Blk w b t cs) (h1 : t ≠ 54) (h2 : t ≠ 62) : Blk w' b t cs := by
  refine (h.block b hB.lt (.inr fun cs' t' fr hh => ?_)).trans hB
  unfold Blk at hB
  rw [hB] at hh
  simp only [Option.some.injEq, Obj.cells.injEq] at hh
  rw [← hh.2.1]
  exact ⟨h1, h2⟩
theorem NetAt.fr {nb : Nat} {ao : Option Addr} {c : Nat} {fs : List Fl} (h : NetAt w N nb ao c fs) (hk : Keeps (nb :: blks ao) w w') : NFr N w w' := by
  refine ⟨hk.os, hk.tape, hk.output, hk.size, fun k hkw hc => hk.block k hkw fun hx => ?_⟩
  have hN := h.old k hx
  rcases hc with hc | hc
  · omega
  rcases List.mem_cons.1 hx with rfl | hx
  · exact (hc _ _ _ h.bn).1 rfl
  · rcases h.ol.2 with ⟨he, _⟩ | ⟨g, cap, cur, he, hb, hg, _⟩
    · simp only [Value.slice.injEq] at he
      obtain ⟨rfl, _, _⟩ := he
      simp at hx
    · simp only [Value.slice.injEq] at he
      obtain ⟨rfl, _, _⟩ := he
      simp at hx
      subst hx
      exact (hc _ _ _ hg).2 rfl
end

/-- a net of the laws' messages -/
def NetG (w : World) (N nb : Nat) (l : List (Int × Nat)) : Prop := ∃ ao c fs, NetAt w N nb ao c fs ∧ fs.length = l.length ∧ ∀ (k : Nat) f x, fs[k]? = some f → l[k]? = some x → Good f x.1 x.2
section
variable {N nb : Nat} {w w' : World} {l : List (Int × Nat)}
theorem NetG.keep0 (h : NetG w N nb l) (hk : Keeps [] w w') : NetG w' N nb l := by
  obtain ⟨ao, c, fs, h1, h2, h3⟩ := h
  exact ⟨ao, c, fs, h1.keep0 hk, h2, h3⟩
theorem NetG.keepB (h : NetG w N nb l) {b : Nat} {t : TypeId} {cs : Array Value} (hB : Blk w b t cs) (h1 : t ≠ 54) (h2 : t ≠ 62) (h3 : t ≠ 5) (hk : Keeps [b] w w') : NetG w' N nb l := by
  obtain ⟨ao, c, fs, g1, g2, g3⟩ := h
  exact ⟨ao, c, fs, g1.keepB hB h1 h2 h3 hk, g2, g3⟩
theorem NetG.nw (h : NetG w N nb l) : N ≤ w.heap.size := by obtain ⟨ao, c, fs, h1, _⟩ := h; exact h1.nw
theorem NetG.le (h : NetG w N nb l) : l.length ≤ 4096 := by obtain ⟨ao, c, fs, h1, h2, _⟩ := h; have := h1.le; omega
theorem NetG.at (h : NetG w N nb l) {k : Nat} {x : Int × Nat} (hv : l[k]? = some x) : ∃ ao c fs f, NetAt w N nb ao c fs ∧ fs.length = l.length ∧ fs[k]? = some f ∧ Good f x.1 x.2 ∧ ∀ (k : Nat) f x, fs[k]? = some f → l[k]? = some x → Good f x.1 x.2 := by
  obtain ⟨ao, c, fs, h1, h2, h3⟩ := h
  have hk := (List.getElem?_eq_some_iff.1 hv).1
  exact ⟨ao, c, fs, fs[k]'(by omega), h1, h2, List.getElem?_eq_getElem (by omega), h3 k _ x (List.getElem?_eq_getElem (by omega)) hv, h3⟩
theorem gnew (w : World) : Calls Tryd.prog 5 #[] w fun e w' => ∃ nb, e = .returned (.pointer (some ⟨nb, 0, none⟩)) ∧ NetG w' w.heap.size nb [] ∧ Keeps [] w w' := by
  refine (nnew w).mono ?_
  rintro e w' ⟨nb, rfl, h, hk⟩
  exact ⟨nb, rfl, ⟨none, 0, [], h, rfl, fun k f x hf => by simp at hf⟩, hk⟩
theorem glen (h : NetG w N nb l) : Calls Tryd.prog 12 #[.pointer (some ⟨nb, 0, none⟩)] w fun e w' => e = .returned (.int .i64 (l.length : Int)) ∧ w' = w := by
  obtain ⟨ao, c, fs, h1, h2, _⟩ := h
  rw [← h2]
  exact nlen h1
theorem gsend (h : NetG w N nb l) (tn : Int) (seq : Nat) (h0 : -1 ≤ tn) (h1 : tn ≤ 1000) (h2 : seq < 18446744073709551616) (hl : l.length < 4096) :
    Calls Tryd.prog 6 #[.pointer (some ⟨nb, 0, none⟩), .agg (msgCells (msgD 1 tn seq) zeroMa)] w fun e w' => e = .returned .nilIface ∧ NetG w' N nb (l ++ [(tn, seq)]) ∧ NFr N w w' := by
  obtain ⟨ao, c, fs, g1, g2, g3⟩ := h
  refine (nsend N nb ao c fs (msgD 1 tn seq) zeroMa w g1 (msgD_at w 1 tn seq) (msgD_nums 1 tn seq h2) (msgD_may tn seq h0 h1) (by omega)).mono ?_
  rintro e w' ⟨ao', c', bo, bc, rfl, hN, -, hk⟩
  refine ⟨rfl, ⟨ao', c', _, hN, by simp [g2], fun k f x hf hx => ?_⟩, g1.fr hk⟩
  rcases Nat.lt_or_ge k fs.length with hk | hk
  · rw [List.getElem?_append_left hk] at hf
    rw [List.getElem?_append_left (by omega)] at hx
    exact g3 k f x hf hx
  · rw [List.getElem?_append_right hk] at hf
    rw [List.getElem?_append_right (by omega), ← g2] at hx
    have e0 : k - fs.length = 0 := by
      have := (List.getElem?_eq_some_iff.1 hf).1
      simp at this
      omega
    rw [e0] at hf hx
    simp at hf hx
    subst hf hx
    exact ⟨rfl, rfl, rfl, h0, h1, h2⟩
theorem gsend_full (h : NetG w N nb l) (tn : Int) (seq : Nat) (h0 : -1 ≤ tn) (h1 : tn ≤ 1000) (h2 : seq < 18446744073709551616) (hl : l.length = 4096) :
    Calls Tryd.prog 6 #[.pointer (some ⟨nb, 0, none⟩), .agg (msgCells (msgD 1 tn seq) zeroMa)] w fun e w' => ∃ ev, e = .returned ev ∧ ErrIs w' ev 31 ∧ Keeps [] w w' := by
  obtain ⟨ao, c, fs, g1, g2, g3⟩ := h
  exact nsend_full g1 (msgD 1 tn seq) zeroMa (msgD_at w 1 tn seq) (msgD_nums 1 tn seq h2) (msgD_may tn seq h0 h1) (by omega)
theorem gpeek (h : NetG w N nb l) (k : Nat) (x : Int × Nat) (hv : l[k]? = some x) :
    Calls Tryd.prog 14 #[.pointer (some ⟨nb, 0, none⟩), .int .i64 (k : Int)] w fun e w' => ∃ a, e = .returned (.tuple #[.agg (msgCells (msgD 1 x.1 x.2) a), .nilIface]) ∧ Keeps [] w w' := by
  obtain ⟨ao, c, fs, f, g1, g2, g3, g4, _⟩ := h.at hv
  obtain ⟨r1, r2, r3⟩ := g4.rd
  refine (npeek g1 k f g3 r1 r3).mono ?_
  rintro e w' ⟨a, rfl, -, hk⟩
  exact ⟨a, by rw [r2], hk⟩
theorem good_erase {fs : List Fl} {l : List (Int × Nat)} (_hl : fs.length = l.length) (h : ∀ (k : Nat) f x, fs[k]? = some f → l[k]? = some x → Good f x.1 x.2) (i : Nat) : ∀ (k : Nat) f x, (fs.eraseIdx i)[k]? = some f → (l.eraseIdx i)[k]? = some x → Good f x.1 x.2 := by
  intro k f x hf hx
  rw [List.getElem?_eraseIdx] at hf hx
  split at hf
  · rw [if_pos (by assumption)] at hx
    exact h _ f x hf hx
  · rw [if_neg (by assumption)] at hx
    exact h _ f x hf hx
theorem gtake (h : NetG w N nb l) (k : Nat) (x : Int × Nat) (hv : l[k]? = some x) :
    Calls Tryd.prog 9 #[.pointer (some ⟨nb, 0, none⟩), .int .i64 (k : Int)] w fun e w' => ∃ a, e = .returned (.tuple #[.agg (msgCells (msgD 1 x.1 x.2) a), .nilIface]) ∧ NetG w' N nb (l.eraseIdx k) ∧ NFr N w w' := by
  obtain ⟨ao, c, fs, f, g1, g2, g3, g4, g5⟩ := h.at hv
  obtain ⟨r1, r2, r3⟩ := g4.rd
  refine (ntake g1 k f g3 r1 r3).mono ?_
  rintro e w' ⟨a, rfl, hN, hk⟩
  have hkl := (List.getElem?_eq_some_iff.1 hv).1
  exact ⟨a, by rw [r2], ⟨ao, c, _, hN, by rw [List.length_eraseIdx_of_lt (by omega), List.length_eraseIdx_of_lt hkl, g2], good_erase g2 g5 k⟩, g1.fr hk⟩
theorem gdrop (h : NetG w N nb l) (k : Nat) (x : Int × Nat) (hv : l[k]? = some x) :
    Calls Tryd.prog 10 #[.pointer (some ⟨nb, 0, none⟩), .int .i64 (k : Int)] w fun e w' => e = .returned .nilIface ∧ NetG w' N nb (l.eraseIdx k) ∧ NFr N w w' := by
  obtain ⟨ao, c, fs, f, g1, g2, g3, g4, g5⟩ := h.at hv
  obtain ⟨r1, r2, r3⟩ := g4.rd
  refine (ndrop g1 k f g3 r1 r3).mono ?_
  rintro e w' ⟨rfl, hN, hk⟩
  have hkl := (List.getElem?_eq_some_iff.1 hv).1
  exact ⟨rfl, ⟨ao, c, _, hN, by rw [List.length_eraseIdx_of_lt (by omega), List.length_eraseIdx_of_lt hkl, g2], good_erase g2 g5 k⟩, g1.fr hk⟩
theorem gcopy (h : NetG w N nb l) (k : Nat) (x : Int × Nat) (hv : l[k]? = some x) (hl : l.length < 4096) :
    Calls Tryd.prog 11 #[.pointer (some ⟨nb, 0, none⟩), .int .i64 (k : Int)] w fun e w' => e = .returned .nilIface ∧ NetG w' N nb (l ++ [x]) ∧ NFr N w w' := by
  obtain ⟨ao, c, fs, f, g1, g2, g3, g4, g5⟩ := h.at hv
  obtain ⟨r1, r2, r3⟩ := g4.rd
  refine (ncopy g1 k f g3 r1 r3 (by omega)).mono ?_
  rintro e w' ⟨ao', c', rfl, hN, -, hk⟩
  refine ⟨rfl, ⟨ao', c', _, hN, by simp [g2], fun k f' x' hf hx => ?_⟩, g1.fr hk⟩
  rcases Nat.lt_or_ge k fs.length with hk | hk
  · rw [List.getElem?_append_left hk] at hf
    rw [List.getElem?_append_left (by omega)] at hx
    exact g5 k f' x' hf hx
  · rw [List.getElem?_append_right hk] at hf
    rw [List.getElem?_append_right (by omega), ← g2] at hx
    have h0 : k - fs.length = 0 := by
      have := (List.getElem?_eq_some_iff.1 hf).1
      simp at this
      omega
    rw [h0] at hf hx
    simp at hf hx
    subst hf hx
    exact g4
theorem gcopy_full (h : NetG w N nb l) (k : Nat) (x : Int × Nat) (hv : l[k]? = some x) (hl : l.length = 4096) :
    Calls Tryd.prog 11 #[.pointer (some ⟨nb, 0, none⟩), .int .i64 (k : Int)] w fun e w' => ∃ ev, e = .returned ev ∧ ErrIs w' ev 31 ∧ Keeps [] w w' := by
  obtain ⟨ao, c, fs, f, g1, g2, g3, g4, g5⟩ := h.at hv
  obtain ⟨r1, r2, r3⟩ := g4.rd
  exact ncopy_full g1 k f g3 r1 r3 (by omega)
end
end Go.Proofs.YtllcidpmdmacjaaDoor
/- Nets of the laws: known. -/

namespace Go.Proofs.YtllcidpmdmacjaaDoor
open Go.RowKit Go.Lib

theorem wpList_builtG {P : Program} {ops : Array Oper} {rest : List Oper} {o : Oper} {a : Act} {w : World} {Q : Exit → Act → World → Prop} (hw : Region.wanted o (yielded ops a.tmps) = true) (t : TypeId) (parts : Array (Nat × Operand)) (ho : o.op = .build t parts)
    (l : List (Nat × Value)) (cells : Array Value) (hb : P.built t l = some cells) (hl : parts.toList.map (fun p => (p.1, a.eval p.2)) = l)
    (h : wpList P ops Q rest (a.put o.dst (.agg cells)) w) : wpList P ops Q (o :: rest) a w := by
  refine BigFrame.wpList_want hw fun K hK => ?_
  have e : (parts.map fun (i, x) => (i, a.eval x)).toList = l := by
    rw [Array.toList_map]
    exact hl
  exact wp_build t parts ho (by rw [e, hb]; rfl) (by rw [e, hb]; exact hK _ _ h)
theorem built_S0 : Tryd.prog.built 29 [] = some #[.int .i64 0, .int .i64 0, .int .i64 0, .int .u64 (0), .bool false] := by kernel_rfl
theorem built_S (s : Int) : Tryd.prog.built 29 [(3, .int .u64 s)] = some #[.int .i64 0, .int .i64 0, .int .i64 0, .int .u64 (s), .bool false] := by kernel_rfl

/-- the laws' messages and the nets' calls on them, without their text -/
structure LB (C : Nat → Array Value) : Prop where
  msg : ∀ (seq : Nat) w, Calls Tryd.prog 7 #[.agg #[.int .i64 0, .int .i64 0, .int .i64 0, .int .u64 ((seq : Nat)), .bool false]] w fun e w' => e = .returned (.agg (C seq)) ∧ Keeps [] w w'
  send : ∀ N nb l w (seq : Nat), NetG w N nb l → seq < 18446744073709551616 → l.length < 4096 → Calls Tryd.prog 6 #[.pointer (some ⟨nb, 0, none⟩), .agg (C seq)] w fun e w' => e = .returned .nilIface ∧ NetG w' N nb (l ++ [(0, seq)]) ∧ NFr N w w'
  full : ∀ N nb l w (seq : Nat), NetG w N nb l → seq < 18446744073709551616 → l.length = 4096 → Calls Tryd.prog 6 #[.pointer (some ⟨nb, 0, none⟩), .agg (C seq)] w fun e w' => ∃ ev, e = .returned ev ∧ ErrIs w' ev 31 ∧ Keeps [] w w'
theorem lb_any : ∃ C, LB C := ⟨fun seq => msgCells (msgD 1 0 seq) zeroMa,
  fun seq w => lmsg_any 0 0 0 seq false w,
  fun _ _ _ _ seq h h2 hl => gsend h 0 seq (by omega) (by omega) h2 hl,
  fun _ _ _ _ seq h h2 hl => gsend_full h 0 seq (by omega) (by omega) h2 hl⟩
section
variable {N nb : Nat} {w w' : World} {l : List (Int × Nat)}
/-- a message's cells: their number, and the three that the laws read -/
structure Ms (X : Array Value) (x : Int × Nat) : Prop where
  size : X.size = 23
  one : X.toList.all Value.oneCell' = true
  kind : X[0]? = some (.int .i64 1)
  dst : X[2]? = some (.int .i64 x.1)
  seq : X[14]? = some (.int .u64 (x.2 : Nat))
theorem Ms.of (x : Int × Nat) (a : Ma) : Ms (msgCells (msgD 1 x.1 x.2) a) x := ⟨rfl, rfl, rfl, rfl, rfl⟩
theorem gpeekM (h : NetG w N nb l) (k : Nat) (x : Int × Nat) (hv : l[k]? = some x) :
    Calls Tryd.prog 14 #[.pointer (some ⟨nb, 0, none⟩), .int .i64 (k : Int)] w fun e w' => ∃ X, e = .returned (.tuple #[.agg X, .nilIface]) ∧ Ms X x ∧ Keeps [] w w' := by
  refine (gpeek h k x hv).mono ?_
  rintro e w' ⟨a, rfl, hk⟩
  exact ⟨_, rfl, Ms.of x a, hk⟩
theorem gtakeM (h : NetG w N nb l) (k : Nat) (x : Int × Nat) (hv : l[k]? = some x) :
    Calls Tryd.prog 9 #[.pointer (some ⟨nb, 0, none⟩), .int .i64 (k : Int)] w fun e w' => ∃ X, e = .returned (.tuple #[.agg X, .nilIface]) ∧ Ms X x ∧ NetG w' N nb (l.eraseIdx k) ∧ NFr N w w' := by
  refine (gtake h k x hv).mono ?_
  rintro e w' ⟨a, rfl, hN, hk⟩
  exact ⟨_, rfl, Ms.of x a, hN, hk⟩
end

set_option maxRecDepth 100000 in
theorem known_any (w : World) : Calls Tryd.prog 4 #[] w fun e w' => e = .returned (.bool true) ∧ Keeps [] w w' := by
  obtain ⟨C, hC⟩ := lb_any
  go_enter Tryd.func4, Tryd.ntmps4
  go_wp2_with fail
  refine (gnew w).mono ?_
  rintro e w1 ⟨nb, rfl, hN, hk⟩
  have hF : NFr w.heap.size w w1 := NFr.of0 hk
  generalize hn : w.heap.size = n at *
  go_wp2_with (first
    | (refine wpList_built rfl 29 _ rfl _ _ (built_S 1) ?_ ?_; rfl)
    | (refine wpList_builtG rfl 29 _ rfl _ _ (built_S 1) rfl ?_))
  refine (hC.msg 1 w1).mono ?_
  rintro e w2 ⟨rfl, hk2⟩
  replace hN := hN.keep0 hk2
  replace hF := hF.trans (NFr.of0 hk2)
  clear hk2
  go_wp2_with fail
  refine (hC.send n nb [] w2 1 hN (by omega) (by simp)).mono ?_
  rintro e w3 ⟨rfl, hN3, hF3⟩
  replace hF := hF.trans hF3
  clear hN hF3
  go_wp2_with (refine wpList_builtG rfl 29 _ rfl _ _ (built_S 2) rfl ?_)
  refine (hC.msg 2 w3).mono ?_
  rintro e w4 ⟨rfl, hk4⟩
  replace hN := hN3.keep0 hk4
  replace hF := hF.trans (NFr.of0 hk4)
  clear hk4 hN3
  go_wp2_with fail
  refine (hC.send n nb _ w4 2 hN (by omega) (by simp)).mono ?_
  rintro e w5 ⟨rfl, hN5, hF5⟩
  replace hF := hF.trans hF5
  clear hN hF5
  go_wp2_with fail
  refine (gcopy hN5 0 (0, 1) rfl (by simp)).mono ?_
  rintro e w6 ⟨rfl, hN6, hF6⟩
  replace hF := hF.trans hF6
  clear hN5 hF6
  go_wp2_with fail
  refine (gtakeM hN6 0 (0, 1) rfl).mono ?_
  rintro e w7 ⟨X, rfl, hX, hN7, hF7⟩
  replace hF := hF.trans hF7
  clear hN6 hF7
  have hXz := hX.size
  have HX1 := Lib.hid hX.one
  go_upto_region 5 with (refine wpList_store_fresh rfl rfl 43 _ _ rfl (w7).heap.size ?_ rfl (X).toList ?_ _ _ ?_ ?_ ?_ ?_; rfl; rfl; (rw [Array.length_toList, hXz]; exact Tryd.sizeM); simp [hXz]; exact HX1.out)
  change Code.wp _ _ _ _ (World.alloc w7 (.cells X 43))
  have hBX := Blk.fresh w7 43 X
  have hk8 := (Keeps.refl [] w7).alloc (.cells X 43)
  replace hN := hN7.keep0 hk8
  replace hF := hF.trans (NFr.of0 hk8)
  clear hN7 hk8
  generalize World.alloc w7 _ = w8 at *
  generalize w7.heap.size = xb at *
  go_wp2_with fail
  refine (gpeekM hN 1 (0, 1) rfl).mono ?_
  rintro e w9 ⟨Y, rfl, hY, hk9⟩
  replace hN := hN.keep0 hk9
  replace hF := hF.trans (NFr.of0 hk9)
  replace hBX := hBX.keep hk9 (by simp)
  clear hk9
  have hYz := hY.size
  have HY1 := Lib.hid hY.one
  go_upto_region 6 with (refine wpList_store_fresh rfl rfl 43 _ _ rfl (w9).heap.size ?_ rfl (Y).toList ?_ _ _ ?_ ?_ ?_ ?_; rfl; rfl; (rw [Array.length_toList, hYz]; exact Tryd.sizeM); simp [hYz]; exact HY1.out)
  change Code.wp _ _ _ _ (World.alloc w9 (.cells Y 43))
  have hBY := Blk.fresh w9 43 Y
  have hk10 := (Keeps.refl [] w9).alloc (.cells Y 43)
  replace hN := hN.keep0 hk10
  replace hF := hF.trans (NFr.of0 hk10)
  replace hBX := hBX.keep hk10 (by simp)
  clear hk10
  generalize World.alloc w9 _ = w10 at *
  generalize w9.heap.size = yb at *
  have cX : w10.cell? ⟨xb, 14, none⟩ = some (.int .u64 1) := (hBX.cell 14).trans hX.seq
  have cY : w10.cell? ⟨yb, 14, none⟩ = some (.int .u64 1) := (hBY.cell 14).trans hY.seq
  go_wp2_with fail
  refine (glen hN).mono ?_
  rintro e w' ⟨rfl, hw⟩
  obtain rfl := hw.symm
  go_wp2_with fail
  go_ret
  exact ⟨rfl, hF.keeps (Keeps.refl [] w) (by omega)⟩
end Go.Proofs.YtllcidpmdmacjaaDoor
/- A net: messages that may not be; places that are not there. -/

namespace Go.Proofs.YtllcidpmdmacjaaDoor
open Go.RowKit Go.Lib

set_option maxRecDepth 100000 in
set_option maxHeartbeats 4000000 in
theorem putMsg_no (d : Md) (a : Ma) (w : World) (h : d.own = false) :
    Calls Tryd.prog 15 #[.agg (msgCells d a)] w fun e w' => ∃ g, e = .returned (.tuple #[.slice none 0 0, .iface 57 (.pointer (some ⟨g, 0, none⟩))]) ∧ ErrIs w' (.iface 57 (.pointer (some ⟨g, 0, none⟩))) 20 ∧ Keeps [] w w' := by
  have MY := fun w => wmay_any d a w
  rw [h] at MY
  obtain ⟨cs, hcs⟩ : ∃ cs, cs = msgCells d a := ⟨_, rfl⟩
  have hcsz : cs.size = 23 := by rw [hcs]; rfl
  rw [← hcs] at MY ⊢
  have hB := Blk.fresh w 43 cs
  have hk := (Keeps.refl [] w).alloc (.cells cs 43)
  have HMY := Lib.hid MY
  clear MY hcs h
  go_enter Tryd.func15, Tryd.ntmps15
  go_upto_region 1 with (fail)
  generalize World.alloc w _ = w1 at *
  generalize w.heap.size = mb at *
  have hlM := hB.lt
  go_wp2_with (refine wpList_load_agg rfl 43 _ rfl mb 0 23 ?_ 43 cs _ hB Tryd.underlying43 rfl Tryd.sizeM ?_ cs ?_ ?_; rfl; omega; exact take23 cs hcsz)
  refine (HMY.out w1).mono ?_
  rintro e w2 ⟨rfl, hk2⟩
  have hk02 := hk.trans hk2
  clear HMY hB hk hk2 hlM
  go_wp2_with fail
  refine (wform _ w2).mono ?_
  rintro e w3 ⟨g, rfl, hE, hk3⟩
  go_wp2_with fail
  go_ret2
  exact ⟨g, rfl, hE, hk02.trans hk3⟩

section
variable {w : World} {N nb : Nat} {ao : Option Addr} {c : Nat} {fs : List Fl} {l : List (Int × Nat)}
set_option maxRecDepth 100000 in
set_option maxHeartbeats 4000000 in
theorem send_no (nb : Nat) (d : Md) (a : Ma) (w : World) (h : d.own = false) :
    Calls Tryd.prog 6 #[.pointer (some ⟨nb, 0, none⟩), .agg (msgCells d a)] w fun e w' => ∃ ev, e = .returned ev ∧ ErrW2 w' ev 20 ∧ Keeps [] w w' := by
  have P := fun W => putMsg_no d a W h
  obtain ⟨cs, hcs⟩ : ∃ cs, cs = msgCells d a := ⟨_, rfl⟩
  have hcsz : cs.size = 23 := by rw [hcs]; rfl
  rw [← hcs] at P ⊢
  have hB := Blk.fresh w 43 cs
  have hk := (Keeps.refl [] w).alloc (.cells cs 43)
  have HP := Lib.hid P
  clear P hcs h
  go_enter Tryd.func6, Tryd.ntmps6
  go_upto_region 1 with (fail)
  generalize World.alloc w _ = w1 at *
  generalize w.heap.size = mb at *
  go_wp2_with (refine wpList_load_agg rfl 43 _ rfl mb 0 23 ?_ 43 cs _ hB Tryd.underlying43 rfl Tryd.sizeM ?_ cs ?_ ?_; rfl; omega; exact take23 cs hcsz)
  refine (HP.out w1).mono ?_
  rintro e w2 ⟨g, rfl, hE, hk2⟩
  have hk02 := hk.trans hk2
  clear hB hk hk2 HP
  rcases hE with ⟨he, _⟩ | ⟨g', p, he, hG⟩
  · cases he
  simp only [Value.iface.injEq, Value.pointer.injEq, Option.some.injEq, Addr.mk.injEq, true_and, and_true] at he
  subst he
  go_wp2_with fail
  go_ret
  exact ⟨_, rfl, ⟨_, g, _, p, rfl, Blk.fresh _ _ _, hG.alloc _⟩, hk02.alloc _⟩

theorem gpeek_lt (h : NetG w N nb l) : nb < w.heap.size := by obtain ⟨ao, c, fs, h1, _⟩ := h; exact h1.bn.lt
theorem gsend_no (nb : Nat) (w : World) (k tn : Int) (seq : Nat) (hbad : ¬ (k = 1 ∧ -1 ≤ tn ∧ tn ≤ 1000)) (hk : k = 0 ∨ k = 1) :
    Calls Tryd.prog 6 #[.pointer (some ⟨nb, 0, none⟩), .agg (msgCells (msgD k tn seq) zeroMa)] w fun e w' => ∃ ev, e = .returned ev ∧ ErrW2 w' ev 20 ∧ Keeps [] w w' := by
  refine send_no nb (msgD k tn seq) zeroMa w ?_
  rcases hk with rfl | rfl
  · rfl
  · unfold Md.own inB msgD
    by_cases h1 : -1 ≤ tn
    · have h2 : ¬ tn ≤ 1000 := fun h2 => hbad ⟨rfl, h1, h2⟩
      simp [h2]
    · simp [h1]
theorem gtake_no (h : NetG w N nb l) (hg : (w).cell? ⟨0, 0, none⟩ = some (.iface 120 (.agg #[.pointer (some ⟨2, 31, none⟩)]))) (k : Int) (hk0 : k < 0 ∨ (l.length : Int) ≤ k) :
    Calls Tryd.prog 9 #[.pointer (some ⟨nb, 0, none⟩), .int .i64 k] w fun e w' => ∃ ev, e = .returned (.tuple #[.agg #[.int .i64 0, .int .i64 0, .int .i64 0, .int .u64 0, .int .u64 0, .int .u64 0, .slice none 0 0, .int .u64 0, .int .u64 0, .bool false, .int .i64 0, .slice none 0 0, .bool false, .int .u64 0, .int .u64 0, .string ⟨#[]⟩, .int .u64 0, .int .i64 0, .slice none 0 0, .slice none 0 0, .int .i64 0, .int .u64 0, .int .i64 0], ev]) ∧ ErrPl w' ev ∧ Keeps [] w w' := by
  obtain ⟨ao, c, fs, h1, h2, _⟩ := h
  exact ntake_no h1 hg k (by rw [h2]; exact hk0)
theorem gdrop_no (h : NetG w N nb l) (hg : (w).cell? ⟨0, 0, none⟩ = some (.iface 120 (.agg #[.pointer (some ⟨2, 31, none⟩)]))) (k : Int) (hk0 : k < 0 ∨ (l.length : Int) ≤ k) :
    Calls Tryd.prog 10 #[.pointer (some ⟨nb, 0, none⟩), .int .i64 k] w fun e w' => ∃ ev, e = .returned ev ∧ ErrPl w' ev ∧ Keeps [] w w' := by
  obtain ⟨ao, c, fs, h1, h2, _⟩ := h
  exact ndrop_no h1 hg k (by rw [h2]; exact hk0)
theorem gcopy_no (h : NetG w N nb l) (k : Int) (hk0 : k < 0 ∨ (l.length : Int) ≤ k) :
    Calls Tryd.prog 11 #[.pointer (some ⟨nb, 0, none⟩), .int .i64 k] w fun e w' => ∃ ev, e = .returned ev ∧ ErrPl w' ev ∧ Keeps [] w w' := by
  obtain ⟨ao, c, fs, h1, h2, _⟩ := h
  exact ncopy_no h1 k (by rw [h2]; exact hk0)
end
end Go.Proofs.YtllcidpmdmacjaaDoor
/- NetPlays: the law's own list of messages, a slice whose room may be cut. -/

namespace Go.Proofs.YtllcidpmdmacjaaDoor
open Go.RowKit Go.Lib

theorem infoM0 : ∃ i z, Tryd.prog.info? 43 = some i ∧ i.zero = some z ∧ i.size = 23 ∧ i.bytes = 256 ∧ z.cells.size = 23 := by
  have h : (Tryd.prog.info? 43).map (fun i => (i.size, i.bytes, (i.zero.map fun z => z.cells.size))) = some (23, 256, some 23) := by kernel_rfl
  obtain ⟨i, hi, hx⟩ := Option.map_eq_some_iff.1 h
  simp only [Prod.mk.injEq] at hx
  obtain ⟨z, hz, hc⟩ := Option.map_eq_some_iff.1 hx.2.2
  exact ⟨i, z, hi, hz, hx.1, hx.2.1, hc⟩

/-- a message of the law -/
def ml (x : Int × Nat) : List Value := (msgCells (msgD 1 x.1 x.2) zeroMa).toList
theorem ml_length (x : Int × Nat) : (ml x).length = 23 := rfl
def mls (l : List (Int × Nat)) : List Value := (l.map ml).flatten
theorem mls_append (l m : List (Int × Nat)) : mls (l ++ m) = mls l ++ mls m := by simp [mls]
theorem mls_length (l : List (Int × Nat)) : (mls l).length = l.length * 23 := flat_length _ 23 (fun _ => rfl) l
theorem mls_one (l : List (Int × Nat)) : ∀ u ∈ mls l, u.oneCell' = true := by
  intro u hu
  unfold mls at hu
  rw [List.mem_flatten] at hu
  obtain ⟨x, hx, hu⟩ := hu
  obtain ⟨f, _, rfl⟩ := List.mem_map.1 hx
  have h1 : (ml f).all Value.oneCell' = true := rfl
  exact List.all_eq_true.1 h1 u hu
theorem mls_take (l : List (Int × Nat)) (k : Nat) : (mls l).take (k * 23) = mls (l.take k) := by
  induction l generalizing k with
  | nil => simp [mls]
  | cons f l ih =>
    cases k with
    | zero => simp [mls]
    | succ k =>
      have e : mls (f :: l) = ml f ++ mls l := by simp [mls]
      rw [e, List.take_succ_cons, show mls (f :: l.take k) = ml f ++ mls (l.take k) by simp [mls], ← ih, show (k + 1) * 23 = (ml f).length + k * 23 by rw [ml_length]; omega, List.take_length_add_append]
theorem mls_drop (l : List (Int × Nat)) (k : Nat) : (mls l).drop (k * 23) = mls (l.drop k) := by
  induction l generalizing k with
  | nil => simp [mls]
  | cons f l ih =>
    cases k with
    | zero => simp [mls]
    | succ k =>
      have e : mls (f :: l) = ml f ++ mls l := by simp [mls]
      rw [e, List.drop_succ_cons, ← ih, show (k + 1) * 23 = (ml f).length + k * 23 by rw [ml_length]; omega, List.drop_length_add_append]
theorem mls_at {l : List (Int × Nat)} {k : Nat} {x : Int × Nat} (h : l[k]? = some x) (r : Nat) (hr : r < 23) : (mls l)[k * 23 + r]? = (ml x)[r]? := flat_at ml 23 (fun _ => rfl) l k r x h hr

/-- the law's own messages: its block is its own; its room is all of the block's, or none -/
structure MM (w : World) (N : Nat) (ao : Option Addr) (c : Nat) (l : List (Int × Nat)) : Prop where
  le : l.length ≤ c
  nil : ao = none → l = [] ∧ c = 0
  has : ∀ ad, ao = some ad → ∃ g cur cap, ad = ⟨g, 0, none⟩ ∧ N ≤ g ∧ Blk w g 43 cur ∧ cur.size = cap * 23 ∧ cap ≤ maxLen ∧ c ≤ cap ∧ (c = cap ∨ c = l.length) ∧ cur.toList.take (l.length * 23) = mls l

section
variable {w w' : World} {N : Nat} {ao : Option Addr} {c : Nat} {l : List (Int × Nat)} {L : List Nat}
theorem MM.none (w : World) (N : Nat) : MM w N none 0 [] := ⟨Nat.le_refl _, fun _ => ⟨rfl, rfl⟩, fun _ e => by cases e⟩
theorem MM.keep (h : MM w N ao c l) (hk : Keeps L w w') (hL : ∀ x ∈ blks ao, x ∉ L) : MM w' N ao c l :=
  ⟨h.le, h.nil, fun ad e => by
    obtain ⟨g, cur, cap, h1, h2, h3, h4⟩ := h.has ad e
    exact ⟨g, cur, cap, h1, h2, h3.keep hk (hL g (by rw [e, h1]; simp)), h4⟩⟩
theorem MM.keep0 (h : MM w N ao c l) (hk : Keeps [] w w') : MM w' N ao c l := h.keep hk (by simp)
theorem MM.fr (h : MM w N ao c l) {M : Nat} (hk : NFr M w w') : MM w' N ao c l :=
  ⟨h.le, h.nil, fun ad e => by
    obtain ⟨g, cur, cap, h1, h2, h3, h4⟩ := h.has ad e
    exact ⟨g, cur, cap, h1, h2, hk.blk h3 (by decide) (by decide), h4⟩⟩
theorem MM.ge (h : MM w N ao c l) : ∀ x ∈ blks ao, N ≤ x := by
  intro x hx
  cases ao with
  | none => simp at hx
  | some ad =>
    obtain ⟨g, cur, cap, h1, h2, h3, h4⟩ := h.has ad rfl
    simp [h1] at hx
    omega
theorem MM.sl (h : MM w N ao c l) : Sl w 23 ao l.length c (mls l) := by
  refine ⟨mls_length l, h.le, ?_, fun e => (h.nil e).2, ?_, ?_, mls_one l⟩
  · cases ao with
    | none => have := (h.nil rfl).2; unfold maxLen; omega
    | some ad => obtain ⟨g, cur, cap, h1, h2, h3, h4, h5, h6, _⟩ := h.has ad rfl; omega
  · intro _ ad e
    obtain ⟨g, cur, cap, h1, _⟩ := h.has ad e
    rw [h1]
  · intro ad e j u hj
    obtain ⟨g, cur, cap, h1, h2, h3, h4, h5, h6, h7, h8⟩ := h.has ad e
    rw [h1, h3.cell]
    rw [← h8, List.getElem?_take] at hj
    split at hj
    · simpa using hj
    · cases hj
theorem MM.own (h : MM w N ao c l) (hc : ∀ ad, ao = some ad → ∃ g cur, ad = ⟨g, 0, Option.none⟩ ∧ Blk w g 43 cur ∧ cur.size = c * 23) : w.ownsRow N 43 23 (.slice ao l.length c) l.length (mls l) := by
  refine ⟨mls_length l, ?_⟩
  cases ao with
  | none => obtain ⟨rfl, rfl⟩ := h.nil rfl; exact .inl ⟨rfl, rfl⟩
  | some ad =>
    obtain ⟨g, cur, cap, h1, h2, h3, h4, h5, h6, h7, h8⟩ := h.has ad rfl
    obtain ⟨g', cur', e1, e2, e3⟩ := hc ad rfl
    subst h1
    simp only [Addr.mk.injEq, and_true] at e1
    subst e1
    have hcu : cur = cur' := by
      unfold Blk at h3 e2
      rw [h3] at e2
      simpa using e2
    subst hcu
    exact .inr ⟨g, c, cur, rfl, h2, h3, h.le, by omega, e3, h8⟩
theorem MM.of (h : w.ownsRow N 43 23 (.slice ao l.length c) l.length (mls l)) : MM w N ao c l := by
  rcases h.2 with ⟨he, h0⟩ | ⟨g, cap, cur, he, hb, hg, hnc, hcm, hcs, htake⟩
  · simp only [Value.slice.injEq] at he
    obtain ⟨rfl, hl, rfl⟩ := he
    have : l = [] := List.eq_nil_of_length_eq_zero hl
    subst this
    exact MM.none w N
  · simp only [Value.slice.injEq] at he
    obtain ⟨rfl, _, rfl⟩ := he
    exact ⟨hnc, fun e => (by cases e), fun ad e => by cases e; exact ⟨g, cur, c, rfl, hb, hg, hcs, hcm, Nat.le_refl _, .inl rfl, htake⟩⟩
/-- the first k, without room -/
theorem MM.cut (h : MM w N ao c l) {k : Nat} (hk : k ≤ l.length) (h0 : ao ≠ Option.none) : MM w N ao k (l.take k) := by
  have hlen : (l.take k).length = k := by simp; omega
  refine ⟨by omega, fun e => absurd e h0, fun ad e => ?_⟩
  obtain ⟨g, cur, cap, h1, h2, h3, h4, h5, h6, h7, h8⟩ := h.has ad e
  refine ⟨g, cur, cap, h1, h2, h3, h4, h5, by have := h.le; omega, .inr hlen.symm, ?_⟩
  rw [hlen, ← mls_take, ← h8, List.take_take, Nat.min_eq_left (Nat.mul_le_mul_right _ hk)]

/-- an append that must grow, of what is only read -/
theorem run_append_grow_own {P : Program} (w : World) (t tx ty e : TypeId) (i : TypeInfo) (z : Value) (size bytes : Nat) (h1 : P.underlying t = some (.slice e)) (h2 : P.info? e = some i) (h3 : i.zero = some z) (h4 : i.size = size) (h5 : i.bytes = bytes) (h6 : z.cells.size = size)
    (ao : Option Addr) (n c : Nat) (xs : List Value) (hS : Sl w size ao n c xs) (y : Value) (m : Nat) (news : List Value) (hs : Src P size tx y m news w) (hg : c < n + m) (b1 : n + m ≤ maxLen) (b2 : (n + m) * bytes ≤ 140737488355328) :
    ∃ ao' c' w', (Builtin.append_ #[t, tx] ty #[.slice ao n c, y]).run P w = .ok (.slice ao' (n + m) c') w' ∧ w'.ownsRow w.heap.size e size (.slice ao' (n + m) c') (n + m) (xs ++ news) ∧ Keeps [] w w' := by
  subst h4
  subst h5
  have hlen : (xs ++ news).length = (n + m) * i.size := by rw [List.length_append, hS.len, hs.newsLen, Nat.add_mul]
  have hb63 : ((n + m : Nat) : Int) ≤ 9223372036854775807 := by have := b1; unfold maxLen at this; omega
  have hold : (Builtin.firstCells i.size n (.slice ao n c)).run P w.drew = .ok xs.toArray w.drew := by
    cases ao with
    | none =>
      obtain rfl := hS.nil rfl
      obtain rfl : n = 0 := by have := hS.cap; omega
      obtain rfl : xs = [] := List.eq_nil_of_length_eq_zero (by simpa using hS.len)
      exact run_firstCells_none w.drew i.size 0 0 0
    | some ad => exact run_firstCells_some w.drew i.size n ad n c xs hS.len (fun j u hj => hS.cells rfl j u hj)
  have hr := run_append_grow_src (P := P) w t tx ty e i z h1 h2 h3 ao n c xs hold y m news hs hg hb63 (growslice_fits hg b2)
  refine ⟨_, _, _, hr, ⟨hlen, .inr ⟨w.heap.size, _, _, rfl, Nat.le_refl _, heap_alloc_new w.drew _, grownCap_ge w (n + m) c e, grownCap_le_maxLen w (n + m) c e b1, ?_, ?_⟩⟩, ⟨rfl, rfl, rfl, by simp, fun k hk _ => Below.heap_alloc w.drew _ k hk⟩⟩
  · have := grownCap_ge w (n + m) c e
    simp only [Array.size_append, List.size_toArray, size_zeroCells, h6, hlen, ← Nat.add_mul]
    congr 1
    omega
  · simp only [Array.toList_append]
    rw [← hlen]
    exact List.take_left

theorem run_append_none {P : Program} (w : World) (t ty e : TypeId) (i : TypeInfo) (h1 : P.underlying t = some (.slice e)) (h2 : P.info? e = some i) (ao : Option Addr) (n c : Nat) (hn : n ≤ c) (bo : Option Addr) (d : Nat) :
    (Builtin.append_ #[t, t] ty #[.slice ao n c, .slice bo 0 d]).run P w = .ok (.slice ao n c) w := by
  cases ao <;> cases bo <;> simp [Builtin.append_, run_underlying h1, sizeOf, typeInfo, h2, Builtin.lenOf, Builtin.firstCells, loadCells, loadCellsFrom, storeCells, hn]

/-- an append onto the law's list -/
theorem run_append_mm (h : MM w N ao c l) (hN : N ≤ w.heap.size) (ty : TypeId) (bo : Option Addr) (m d : Nat) (news : List (Int × Nat)) (hm : m = news.length) (hT : Sl w 23 bo m d (mls news)) (hb : l.length + news.length ≤ 1000000) :
    ∃ ao' c' w', (Builtin.append_ #[26, 26] ty #[.slice ao l.length c, .slice bo m d]).run Tryd.prog w = .ok (.slice ao' (l.length + m) c') w' ∧ MM w' N ao' c' (l ++ news) ∧ Keeps (blks ao) w w' := by
  obtain ⟨i, z, hi, hz, hsz, hby, hzc⟩ := infoM0
  subst hm
  have e1 : (l ++ news).length = l.length + news.length := by simp
  have grown : c < l.length + news.length → ∃ ao' c' w', (Builtin.append_ #[26, 26] ty #[.slice ao l.length c, .slice bo news.length d]).run Tryd.prog w = .ok (.slice ao' (l.length + news.length) c') w' ∧ MM w' N ao' c' (l ++ news) ∧ Keeps (blks ao) w w' := by
    intro hc
    obtain ⟨ao', c', w', hr, hO, hk⟩ := run_append_grow_own (P := Tryd.prog) w 26 26 ty 43 i z 23 256 Tryd.underlying26 hi hz hsz hby hzc ao l.length c (mls l) h.sl _ _ _ (hT.src Tryd.underlying26) hc (by unfold maxLen; omega) (by omega)
    refine ⟨ao', c', w', hr, ?_, hk.of_nil⟩
    rw [← mls_append] at hO
    have hO' := ownsRow_older hO hN
    rw [← e1] at hO'
    exact MM.of hO'
  rcases Nat.lt_or_ge c (l.length + news.length) with hc | hc
  · exact grown hc
  rcases Nat.eq_zero_or_pos news.length with h0 | h0
  · have hn : news = [] := List.eq_nil_of_length_eq_zero h0
    subst hn
    refine ⟨ao, c, w, ?_, by simpa using h, Keeps.refl _ _⟩
    exact run_append_none (P := Tryd.prog) w 26 ty 43 i Tryd.underlying26 hi ao l.length c h.le bo d
  · have hO := h.own (fun ad e => by
      obtain ⟨g, cur, cap, g1, g2, g3, g4, g5, g6, g7, g8⟩ := h.has ad e
      rcases g7 with rfl | g7
      · exact ⟨g, cur, g1, g3, g4⟩
      · omega)
    obtain ⟨ao', c', w', hr, hO', hk, _⟩ := run_append_by (P := Tryd.prog) w N 26 26 ty 43 i z 23 256 Tryd.underlying26 hi hz hsz hby hzc ao l.length c (mls l) hO _ _ _ (hT.src Tryd.underlying26) (by unfold maxLen; omega) (by omega) hN
    refine ⟨ao', c', w', hr, ?_, hk⟩
    rw [← mls_append, ← e1] at hO'
    exact MM.of hO'

theorem wpList_append_mm {ops : Array Oper} {rest : List Oper} {o : Oper} {a : Act} {Q : Exit → Act → World → Prop}
    (hg : o.guard = Option.none) (s x : Operand) (hop : o.op = Op.call { callee := Callee.builtin Builtin.append, args := #[s, x], argTypes := #[26, 26] })
    (h : MM w N ao c l) (hN : N ≤ w.heap.size) (n : Nat) (hn : n = l.length) (hv : a.eval s = .slice ao n c) (bo : Option Addr) (m d : Nat) (hy : a.eval x = .slice bo m d) (news : List (Int × Nat)) (hm : m = news.length) (hT : Sl w 23 bo m d (mls news)) (hb : l.length + news.length ≤ 1000000)
    (hK : ∀ ao' c' w', MM w' N ao' c' (l ++ news) → Keeps (blks ao) w w' → wpList Tryd.prog ops Q rest (a.put o.dst (.slice ao' (l ++ news).length c')) w') : wpList Tryd.prog ops Q (o :: rest) a w := by
  subst hn
  refine wpList_plain hg fun K hK' => ?_
  obtain ⟨ao', c', w', hrun, hO', hk⟩ := run_append_mm h hN o.type bo m d news hm hT hb
  have e1 : l.length + m = (l ++ news).length := by simp [hm]
  rw [e1] at hrun
  unfold Oper.wp
  simp only [execOp, hop, resolve, invoke, builtin, hv, hy, List.map_toArray, List.map_cons, List.map_nil, Sem.run_bind, Sem.run_pure, hrun, Result.andThen]
  exact hK' _ _ (hK ao' c' w' hO' hk)

theorem step_append_mm {ops : Array Oper} {o : Oper} {a : Act} {K : Act → World → Prop} {Q : Exit → Act → World → Prop} {E : Prop}
    (hg : o.guard = Option.none) (s x : Operand) (hop : o.op = Op.call { callee := Callee.builtin Builtin.append, args := #[s, x], argTypes := #[26, 26] })
    (h : MM w N ao c l) (hN : N ≤ w.heap.size) (n : Nat) (hn : n = l.length) (hv : a.eval s = .slice ao n c) (bo : Option Addr) (m d : Nat) (hy : a.eval x = .slice bo m d) (news : List (Int × Nat)) (hm : m = news.length) (hT : Sl w 23 bo m d (mls news)) (hb : l.length + news.length ≤ 1000000)
    (hK : ∀ ao' c' w', MM w' N ao' c' (l ++ news) → Keeps (blks ao) w w' → K (a.put o.dst (.slice ao' (l ++ news).length c')) w') : if Region.wanted o (yielded ops a.tmps) = true then Oper.wp Tryd.prog o a w K Q else E := by
  subst hn
  have hw : Region.wanted o (yielded ops a.tmps) = true := by simp [Region.wanted, hg]
  rw [if_pos hw]
  obtain ⟨ao', c', w', hrun, hO', hk⟩ := run_append_mm h hN o.type bo m d news hm hT hb
  have e1 : l.length + m = (l ++ news).length := by simp [hm]
  rw [e1] at hrun
  unfold Oper.wp
  simp only [execOp, hop, resolve, invoke, builtin, hv, hy, List.map_toArray, List.map_cons, List.map_nil, Sem.run_bind, Sem.run_pure, hrun, Result.andThen]
  exact hK ao' c' w' hO' hk
end
end Go.Proofs.YtllcidpmdmacjaaDoor
/- NetPlays: steps that come in, the law's messages and the nets' answers to them, the first place. -/

namespace Go.Proofs.YtllcidpmdmacjaaDoor
open Go.RowKit Go.Lib

/-- a step of the law -/
structure Sp where
  what : Int
  i : Int
  tn : Int
  seq : Nat
  bad : Bool
abbrev Sp.cells (s : Sp) : Array Value := #[.int .i64 s.what, .int .i64 s.i, .int .i64 s.tn, .int .u64 (s.seq : Nat), .bool s.bad]
theorem in_sp5 : Tryd.prog.cellsOf 29 = 5 := by kernel_rfl
theorem in_one_bool : Tryd.prog.cellsOf 4 = 1 := by kernel_rfl
theorem sizeSp : (Tryd.prog.info? 29).map (·.size) = some 5 := by kernel_rfl
section
variable {H : Type} {enc : TypeId × Value → H} {w : World}
theorem sp_in {cs : List Value} (h : Rd enc w 29 cs) : ∃ s : Sp, cs = s.cells.toList ∧ s.seq < 18446744073709551616 := by
  obtain ⟨hl, hs⟩ := h.struct Tryd.underlying29
  rw [in_sp5] at hl
  obtain ⟨c0, l0, rfl, e0⟩ := in_cons hl
  obtain ⟨c1, l1, rfl, e1⟩ := in_cons e0
  obtain ⟨c2, l2, rfl, e2⟩ := in_cons e1
  obtain ⟨c3, l3, rfl, e3⟩ := in_cons e2
  obtain ⟨c4, l4, rfl, e4⟩ := in_cons e3
  obtain rfl := List.eq_nil_of_length_eq_zero e4
  have k0 : Rd enc w 3 [c0] := by have := hs 0 _ rfl; simpa [in_one_int] using this
  have k1 : Rd enc w 3 [c1] := by have := hs 1 _ rfl; simpa [in_one_int] using this
  have k2 : Rd enc w 3 [c2] := by have := hs 2 _ rfl; simpa [in_one_int] using this
  have k3 : Rd enc w 27 [c3] := by have := hs 3 _ rfl; simpa [in_one_int, in_one_u64] using this
  have k4 : Rd enc w 4 [c4] := by have := hs 4 _ rfl; simpa [in_one_int, in_one_u64, in_one_bool] using this
  obtain ⟨x0, ex0, _⟩ := k0.int Tryd.underlying3
  obtain ⟨x1, ex1, _⟩ := k1.int Tryd.underlying3
  obtain ⟨x2, ex2, _⟩ := k2.int Tryd.underlying3
  obtain ⟨x3, ex3, h3⟩ := k3.int Tryd.underlying27
  obtain ⟨x4, ex4⟩ := k4.bool Tryd.underlying4
  simp only [List.cons.injEq, and_true] at ex0 ex1 ex2 ex3 ex4
  subst ex0 ex1 ex2 ex3 ex4
  have b3 := bounds_u64 h3
  obtain ⟨n3, rfl⟩ := Int.eq_ofNat_of_zero_le b3.1
  exact ⟨⟨x0, x1, x2, n3, x4⟩, rfl, by simp only []; omega⟩
/-- the steps that came in -/
def StepsIn (w : World) (a : Option Addr) (l : List Sp) : Prop := ∀ (k : Nat) s, l[k]? = some s → ∃ b o, a = some ⟨b, o, none⟩ ∧ ∀ j v, s.cells.toList[j]? = some v → w.cell? ⟨b, o + k * 5 + j, none⟩ = some v
theorem steps_in {a : Option Addr} {len cap : Nat} (h : Rd enc w 22 [.slice a len cap]) : ∃ l : List Sp, l.length = len ∧ (∀ s ∈ l, s.seq < 18446744073709551616) ∧ StepsIn w a l := by
  obtain ⟨l, hl, hq, hS⟩ := sl_in h Tryd.underlying22 in_sp5 (by omega) (⟨0, 0, 0, 0, false⟩ : Sp) (fun v => v.cells.toList) (fun v => v.seq < 18446744073709551616) (fun _ => rfl)
    (by intro v u hu; simp at hu; rcases hu with rfl | rfl | rfl | rfl | rfl <;> rfl) (fun cs hc => sp_in hc)
  refine ⟨l, hl, hq, fun k s hk => ?_⟩
  have hkl := (List.getElem?_eq_some_iff.1 hk).1
  have hc := hS.cap
  obtain ⟨b, o, rfl⟩ := hS.at (by omega)
  refine ⟨b, o, rfl, fun j v hj => ?_⟩
  have hj5 : j < 5 := by have := (List.getElem?_eq_some_iff.1 hj).1; simpa using this
  have := hS.cell _ rfl (k * 5 + j) v ((flat_at (fun v : Sp => v.cells.toList) 5 (fun _ => rfl) l k j s hk hj5).trans hj)
  simpa [Nat.add_assoc] using this
end

/-- the laws' messages and the nets' answers to them, without their text -/
structure LC (C : Int → Nat → Bool → Array Value) : Prop where
  size : ∀ tn seq bad, (C tn seq bad).size = 23
  ml : ∀ tn seq, (C tn seq false).toList = ml (tn, seq)
  msg : ∀ (s : Sp) w, Calls Tryd.prog 7 #[.agg s.cells] w fun e w' => e = .returned (.agg (C s.tn s.seq s.bad)) ∧ Keeps [] w w'
  send : ∀ N nb l w (tn : Int) (seq : Nat), NetG w N nb l → -1 ≤ tn → tn ≤ 1000 → seq < 18446744073709551616 → l.length < 4096 → Calls Tryd.prog 6 #[.pointer (some ⟨nb, 0, none⟩), .agg (C tn seq false)] w fun e w' => e = .returned .nilIface ∧ NetG w' N nb (l ++ [(tn, seq)]) ∧ NFr N w w'
  no : ∀ nb w (tn : Int) (seq : Nat) (bad : Bool), ¬ (bad = false ∧ -1 ≤ tn ∧ tn ≤ 1000) → Calls Tryd.prog 6 #[.pointer (some ⟨nb, 0, none⟩), .agg (C tn seq bad)] w fun e w' => ∃ ev, e = .returned ev ∧ ErrW2 w' ev 20 ∧ Keeps [] w w'
theorem lc_any : ∃ C, LC C := ⟨fun tn seq bad => msgCells (msgD (if bad then 0 else 1) tn seq) zeroMa,
  fun _ _ _ => rfl, fun _ _ => rfl,
  fun s w => lmsg_any s.what s.i s.tn s.seq s.bad w,
  fun _ _ _ _ tn seq h h0 h1 h2 hl => gsend h tn seq h0 h1 h2 hl,
  fun nb w tn seq bad hb => gsend_no nb w (if bad then 0 else 1) tn seq (by cases bad <;> simp at hb ⊢; intro a; have := hb a; omega) (by cases bad <;> simp)⟩

/-- the first place from k on whose message goes to tn -/
def IsFst (l : List (Int × Nat)) (tn : Int) (k : Nat) (r : Int) : Prop :=
  (r = -1 ∧ ∀ (i : Nat) x, k ≤ i → l[i]? = some x → x.1 ≠ tn) ∨ (∃ (i : Nat) (x : Int × Nat), r = (i : Int) ∧ k ≤ i ∧ l[i]? = some x ∧ x.1 = tn ∧ ∀ (j : Nat) y, k ≤ j → j < i → l[j]? = some y → y.1 ≠ tn)
theorem IsFst.nil (l : List (Int × Nat)) (tn : Int) : IsFst l tn l.length (-1) := .inl ⟨rfl, fun i x hi hx => absurd (List.getElem?_eq_some_iff.1 hx).1 (by omega)⟩
theorem IsFst.hit {l : List (Int × Nat)} {tn : Int} {k : Nat} {x : Int × Nat} (hx : l[k]? = some x) (h : x.1 = tn) : IsFst l tn k k := .inr ⟨k, x, rfl, Nat.le_refl _, hx, h, fun j y hj hj' => by omega⟩
theorem IsFst.miss {l : List (Int × Nat)} {tn r : Int} {k : Nat} {x : Int × Nat} (hx : l[k]? = some x) (h : x.1 ≠ tn) (hr : IsFst l tn (k + 1) r) : IsFst l tn k r := by
  rcases hr with ⟨rfl, h1⟩ | ⟨i, y, rfl, h1, h2, h3, h4⟩
  · refine .inl ⟨rfl, fun i y hi hy => ?_⟩
    by_cases e : i = k
    · subst e; rw [hx] at hy; cases hy; exact h
    · exact h1 i y (by omega) hy
  · refine .inr ⟨i, y, rfl, by omega, h2, h3, fun j z hj hj' hz => ?_⟩
    by_cases e : j = k
    · subst e; rw [hx] at hz; cases hz; exact h
    · exact h4 j z (by omega) hj' hz
theorem IsFst.uniq {l : List (Int × Nat)} {tn : Int} {k : Nat} {r s : Int} (h : IsFst l tn k r) (h' : IsFst l tn k s) : r = s := by
  rcases h with ⟨rfl, h1⟩ | ⟨i, x, rfl, h1, h2, h3, h4⟩
  · rcases h' with ⟨rfl, _⟩ | ⟨j, y, rfl, g1, g2, g3, g4⟩
    · rfl
    · exact absurd g3 (h1 j y g1 g2)
  · rcases h' with ⟨rfl, g1⟩ | ⟨j, y, rfl, g1, g2, g3, g4⟩
    · exact absurd h3 (g1 i x h1 h2)
    · rcases Nat.lt_trichotomy i j with h | h | h
      · exact absurd h3 (g4 i x h1 h h2)
      · rw [h]
      · exact absurd g3 (h4 j y g1 h g2)
section
variable {w w' : World} {N : Nat} {ao : Option Addr} {c : Nat} {l : List (Int × Nat)}
/-- what stands behind the k-th -/
theorem MM.tail (h : MM w N ao c l) {k : Nat} (hk : k < l.length) : Sl w 23 (if c = k + 1 then ao else ao.map (·.add ((k + 1) * 23))) (l.length - (k + 1)) (c - (k + 1)) (mls (l.drop (k + 1))) := by
  have := h.sl.drop (k := k + 1) (by omega)
  rwa [mls_drop] at this
theorem MM.at (h : MM w N ao c l) {k : Nat} {x : Int × Nat} (hx : l[k]? = some x) : ∃ g, ao = some ⟨g, 0, Option.none⟩ ∧ ∀ r v, (ml x)[r]? = some v → w.cell? ⟨g, k * 23 + r, Option.none⟩ = some v := by
  have hkl := (List.getElem?_eq_some_iff.1 hx).1
  cases ao with
  | none => have := (h.nil rfl).1; rw [this] at hkl; simp at hkl
  | some ad =>
    obtain ⟨g, cur, cap, rfl, _⟩ := h.has ad rfl
    refine ⟨g, rfl, fun r v hr => ?_⟩
    have hr23 : r < 23 := by have := (List.getElem?_eq_some_iff.1 hr).1; rwa [ml_length] at this
    have := h.sl.cell _ rfl (k * 23 + r) v ((mls_at hx r hr23).trans hr)
    simpa using this
theorem ml2 (x : Int × Nat) : (ml x)[2]? = some (.int .i64 x.1) := rfl
theorem ml14 (x : Int × Nat) : (ml x)[14]? = some (.int .u64 (x.2 : Nat)) := rfl
end
end Go.Proofs.YtllcidpmdmacjaaDoor
/- A net: Find. -/

namespace Go.Proofs.YtllcidpmdmacjaaDoor
open Go.RowKit Go.Lib

section
variable {w w' : World} {N nb : Nat} {ao : Option Addr} {c : Nat} {fs : List Fl}

set_option maxRecDepth 100000 in
set_option maxHeartbeats 4000000 in
theorem findix (h : NetAt w N nb ao c fs) (p q : Nat) (y : Int) (l : List (Int × Nat)) (hl : fs.length = l.length) (hG : ∀ (k : Nat) f x, fs[k]? = some f → l[k]? = some x → Good f x.1 x.2) (hp : Blk w p 3 #[.int .i64 1]) (hq : Blk w q 3 #[.int .i64 y]) :
    Calls Tryd.prog 20 #[.slice ao fs.length c, .func (Fn.func 21) #[] #[.pointer (some ⟨p, 0, none⟩), .pointer (some ⟨q, 0, none⟩)]] w fun e w' => ∃ r, e = .returned (.int .i64 r) ∧ IsFst l y 0 r ∧ Keeps [] w w' := by
  have hle := h.le
  have HL := Lib.hid hl
  have HG := Lib.hid hG
  clear hl hG
  go_enter Tryd.func20, Tryd.ntmps20
  go_wp2_with fail
  go_loopw [8] (fun v wr => ∃ k : Nat, v = .int .i64 (k : Int) ∧ k ≤ fs.length ∧ (∀ (i : Nat) x, i < k → l[i]? = some x → x.1 ≠ y) ∧ NetAt wr N nb ao c fs ∧ Blk wr p 3 #[.int .i64 1] ∧ Blk wr q 3 #[.int .i64 y] ∧ Keeps [] w wr) (fun v _ => 5000 - (intOf v).toNat)
  case atStart => exact ⟨0, rfl, by omega, fun i x hi => by omega, h, hp, hq, Keeps.refl _ _⟩
  case round =>
    obtain ⟨k, rfl, hk, hno, hN, hpk, hqk, hkk⟩ := hrel
    have HNO := Lib.hid hno
    clear h hp hq hno
    by_cases hlt : k < fs.length
    · have n1 : (k : Int) < (fs.length : Int) := by omega
      have q1 : IntKind.i64.wrap ((k : Int) + 1) = k + 1 := IntWalk.i64_in _ (by omega)
      obtain ⟨f, hf⟩ : ∃ f, fs[k]? = some f := ⟨_, List.getElem?_eq_getElem hlt⟩
      obtain ⟨x, hx⟩ : ∃ x, l[k]? = some x := ⟨_, List.getElem?_eq_getElem (by have := HL.out; omega)⟩
      obtain ⟨g, rfl, -⟩ := hN.ao0 (by omega)
      have HR := Lib.hid (hN.run hf rfl)
      have HX := Lib.hid hx
      have hgd := HG.out k f x hf hx
      have HD := Lib.hid hgd.2.2.1
      have HC := Lib.hid (nfind1 f p q 1 y wr hpk hqk)
      have hs1 : f.src = 1 := hgd.2.1
      have HS := Lib.hid hs1
      clear hf hx hgd hs1
      go_wp2_with (refine wpList_load_run rfl 62 _ rfl g (k * 3) rfl f.cells.toList HR.out _ Tryd.underlying62 rfl Tryd.sizeF ?_)
      refine HC.out.mono ?_
      rintro e w2 ⟨rfl, hk2⟩
      by_cases hd : f.dst = y
      · have e1 : (decide (f.src = 1) && decide (f.dst = y)) = true := by simp [HS.out, hd]
        rw [e1]
        have HY := Lib.hid hd
        clear e1 hd
        go_wp2_with fail
        go_ret
        exact ⟨_, rfl, .inr ⟨k, x, rfl, by omega, HX.out, by rw [← HD.out]; exact HY.out, fun j z hj hj' hz => HNO.out j z hj' hz⟩, hkk.trans hk2⟩
      · have e1 : (decide (f.src = 1) && decide (f.dst = y)) = false := by simp [hd]
        rw [e1]
        have HY := Lib.hid hd
        clear e1 hd
        go_wp2_with fail
        go_roundw
        case rel =>
          refine ⟨k + 1, by simp, by omega, fun i z hi hz => ?_, hN.keep0 hk2, hpk.keep hk2 (by simp), hqk.keep hk2 (by simp), hkk.trans hk2⟩
          by_cases e : i = k
          · subst e
            have := HX.out
            rw [this] at hz
            cases hz
            rw [← HD.out]
            exact HY.out
          · exact HNO.out i z (by omega) hz
        case measure => simp [intOf]; omega
    · obtain rfl : k = fs.length := by omega
      clear hlt
      go_wp2_with fail
      go_ret
      exact ⟨_, rfl, .inl ⟨rfl, fun i x hi hx => HNO.out i x (by have := (List.getElem?_eq_some_iff.1 hx).1; have := HL.out; omega) hx⟩, hkk⟩

set_option maxRecDepth 100000 in
set_option maxHeartbeats 4000000 in
theorem nfind (h : NetAt w N nb ao c fs) (y : Int) (l : List (Int × Nat)) (hl : fs.length = l.length) (hG : ∀ (k : Nat) f x, fs[k]? = some f → l[k]? = some x → Good f x.1 x.2) :
    Calls Tryd.prog 13 #[.pointer (some ⟨nb, 0, none⟩), .int .i64 1, .int .i64 y] w fun e w' => ∃ r, e = .returned (.int .i64 r) ∧ IsFst l y 0 r ∧ Keeps [] w w' := by
  have hp := (Blk.fresh w 3 #[.int .i64 1]).alloc (.cells #[.int .i64 y] 3)
  have hq := Blk.fresh_at (w.alloc (.cells #[.int .i64 1] 3)) 3 #[.int .i64 y] (n := w.heap.size + 1) (by simp)
  have hk := ((Keeps.refl [] w).alloc (.cells #[.int .i64 1] 3)).alloc (.cells #[.int .i64 y] 3)
  have h1 := h.keep0 hk
  have HL := Lib.hid hl
  have HG := Lib.hid hG
  clear hl hG h
  go_enter Tryd.func13, Tryd.ntmps13
  go_upto_region 1 with (fail)
  generalize World.alloc (World.alloc w _) _ = w1 at *
  generalize w.heap.size + 1 = qb at *
  generalize w.heap.size = pb at *
  have hc := h1.bn.cell
  have hl1 := h1.bn.lt
  have HF := Lib.hid (findix h1 pb qb y l HL.out HG.out hp hq)
  go_wp2_with fail
  refine HF.out.mono ?_
  rintro e w2 ⟨r, rfl, hr, hk2⟩
  have HR := Lib.hid hr
  clear hr HF hc
  go_wp2_with fail
  go_ret
  exact ⟨r, rfl, HR.out, hk.trans hk2⟩
end
theorem gfind {w : World} {N nb : Nat} {l : List (Int × Nat)} (h : NetG w N nb l) (y : Int) :
    Calls Tryd.prog 13 #[.pointer (some ⟨nb, 0, none⟩), .int .i64 1, .int .i64 y] w fun e w' => ∃ r, e = .returned (.int .i64 r) ∧ IsFst l y 0 r ∧ Keeps [] w w' := by
  obtain ⟨ao, c, fs, h1, h2, h3⟩ := h
  exact nfind h1 y l h2 h3
section
variable {w w' : World} {N nb : Nat} {ao : Option Addr} {c : Nat} {l : List (Int × Nat)}
theorem MM.apart (h : MM w N ao c l) {b : Nat} {t : TypeId} {cs : Array Value} (hB : Blk w b t cs) (h1 : t ≠ 43) : b ∉ blks ao := by
  intro hx
  cases ao with
  | none => simp at hx
  | some ad =>
    obtain ⟨g, cur, cap, g1, g2, g3, g4⟩ := h.has ad rfl
    simp [g1] at hx
    exact absurd hx (hB.ne g3 h1)
theorem NetG.keepM (hN : NetG w N nb l) {l' : List (Int × Nat)} (h : MM w N ao c l') (hk : Keeps (blks ao) w w') : NetG w' N nb l := by
  cases ao with
  | none => exact hN.keep0 hk
  | some ad =>
    obtain ⟨g, cur, cap, g1, g2, g3, g4⟩ := h.has ad rfl
    subst g1
    exact hN.keepB g3 (by decide) (by decide) (by decide) hk
theorem NetG.frM (hN : NetG w N nb l) : N ≤ w.heap.size := hN.nw
end
end Go.Proofs.YtllcidpmdmacjaaDoor
