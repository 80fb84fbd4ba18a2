/- The wal: its file is written anew: the frames. -/
import Derived.Test.YtfgmbjdeimallaaGreatDoorWopZ

namespace Go.Proofs.YtfgmbjdeimallaaGreatDoor
open Go.RowKit Go.Lib

theorem rdsA {w : World} {tb wb db : Nat} {s : Ws} {ao : Option Addr} {c : Nat} {size : Int} (hT : Blk w tb 41 #[.pointer (some ⟨wb, 0, none⟩)]) (hB : Blk w wb 81 (walCells db s ao c size)) : ∀ q ∈ [((0 : Nat), fun w0 : World => w0.cell? ⟨tb, 0, none⟩ = some (.pointer (some ⟨wb, 0, none⟩))), ((3 : Nat), fun w0 : World => Blk w0 wb 81 (walCells db s ao c size)), ((5 : Nat), fun w0 : World => w0.cell? ⟨tb, 0, none⟩ = some (.pointer (some ⟨wb, 0, none⟩))), ((8 : Nat), fun w0 : World => w0.cell? ⟨wb, 3, none⟩ = some (.int .u64 (s.base : Nat))), ((9 : Nat), fun w0 : World => w0.cell? ⟨tb, 0, none⟩ = some (.pointer (some ⟨wb, 0, none⟩))), ((12 : Nat), fun w0 : World => w0.cell? ⟨wb, 4, none⟩ = some (.int .u64 (s.bt : Nat)))], q.2 w := by
  have h0 := hT.cell 0
  have h3 := hB.cell 3
  have h4 := hB.cell 4
  intro q hq
  simp only [List.mem_cons, List.not_mem_nil, or_false] at hq
  rcases hq with rfl | rfl | rfl | rfl | rfl | rfl
  · simpa using h0
  · exact hB
  · simpa using h0
  · simpa using h3
  · simpa using h0
  · simpa using h4

/-- the two frames ahead of the entries -/
def AnHead (W : World) (N : Nat) (s : Ws) (ao : Option Addr) (c : Nat) : Prop := ∃ ls : List Bsl, ls.length = 2 ∧ BsOwn W N ao c ls ∧ ls.map (·.l) = [(Ev.hard s.term s.vote).bytes, (Ev.drop s.base s.bt).bytes]
theorem anhead {W : World} {N xb : Nat} {ao1 ao2 : Option Addr} {s : Ws} {d1 d2 : Nat} (hB : Blk W xb 26 #[.slice ao1 (Ev.hard s.term s.vote).bytes.length d1, .slice ao2 (numB 4 [s.base, s.bt]).length d2]) (hN : N ≤ xb) (h1 : Own W N ao1 d1 (Ev.hard s.term s.vote).bytes) (h2 : Own W N ao2 d2 (numB 4 [s.base, s.bt])) : AnHead W N s (some ⟨xb, 0, none⟩) 2 := by
  refine ⟨[⟨ao1, d1, (Ev.hard s.term s.vote).bytes⟩, ⟨ao2, d2, numB 4 [s.base, s.bt]⟩], rfl, ⟨own_blk hB hN rfl (by simp [maxLen]), ?_⟩, ?_⟩
  · intro x hx
    simp only [List.mem_cons, List.not_mem_nil, or_false] at hx
    rcases hx with rfl | rfl
    · exact h1
    · exact h2
  · simp [Ev.bytes, numB]

theorem anew_length (s : Ws) : (anewEvs s).length = s.es.length + 2 := by simp [anewEvs]
theorem anew_at {s : Ws} {j : Nat} {x : Ent} (h : s.es[j]? = some x) : (anewEvs s)[j + 2]? = some (.ent x) := by
  simp [anewEvs, h]
theorem map_take_succ {α β : Type} (f : α → β) {l : List α} {j : Nat} {x : α} (h : l[j]? = some x) : (l.take (j + 1)).map f = (l.take j).map f ++ [f x] := by
  obtain ⟨hj, rfl⟩ := List.getElem?_eq_some_iff.1 h
  have e1 : l.take (j + 1) = l.take j ++ [l[j]] := by rw [List.take_add_one, List.getElem?_eq_getElem hj]; rfl
  rw [e1, List.map_append]
  rfl
theorem frs_file {ls : List Bsl} {evs : List Ev} (h : ls.map (·.l) = evs.map Ev.bytes) : frs ls = fileOf evs := by
  unfold frs fileOf
  have e1 : ls.map (fun x => frame x.l) = (ls.map (·.l)).map frame := by simp [Function.comp_def]
  have e2 : evs.map (fun e => frame e.bytes) = (evs.map Ev.bytes).map frame := by simp [Function.comp_def]
  rw [e1, e2, h]
/-- a list of bytes grows by one -/
theorem BsOwn.grow {w : World} {N : Nat} {ao : Option Addr} {n c : Nat} {ls : List Bsl} {x : Bsl} (h : w.ownsRow N 26 1 (.slice ao n c) n (ls.map Bsl.cell ++ [x.cell])) (hn : n = ls.length + 1) (h1 : ∀ y ∈ ls, Own w N y.a y.c y.l) (h2 : Own w N x.a x.c x.l) : BsOwn w N ao c (ls ++ [x]) := by
  refine ⟨?_, fun y hy => ?_⟩
  · have e1 : (ls ++ [x]).length = n := by simp [hn]
    rw [e1, List.map_append]
    exact h
  · rcases List.mem_append.1 hy with hy | hy
    · exact h1 y hy
    · simp at hy
      subst hy
      exact h2
theorem one_cell {w : World} {v : Value} {t : TypeId} (h1 : v.oneCell' = true) : Sl (w.alloc (.cells #[v] t)) 1 (some ⟨w.heap.size, 0, none⟩) 1 1 [v] :=
  Sl.of_blk (n := 1) (Blk.fresh w t #[v]) rfl (by decide) (by intro u hu; simp at hu; subst hu; exact h1)

/-- what writes the file anew -/
def DSt.anew (d : DSt) (s : Ws) : DSt × DRes :=
  if (d.append nmNew (fileOf (anewEvs s))).2.isOk = false then d.append nmNew (fileOf (anewEvs s)) else
  if ((d.append nmNew (fileOf (anewEvs s))).1.sync nmNew).2.isOk = false then (d.append nmNew (fileOf (anewEvs s))).1.sync nmNew else
  ((d.append nmNew (fileOf (anewEvs s))).1.sync nmNew).1.rename nmNew nmWal

theorem numbers2b (b t m : Nat) (w : World) (h : Blk w b 23 #[.int .u64 (t : Nat), .int .u64 (m : Nat)]) (ht : t < 18446744073709551616) (hm : m < 18446744073709551616) :
    Calls Tryz.prog 45 #[.int .u8 4, .slice (some ⟨b, 0, none⟩) 2 2] w fun e w' => ∃ ao d, e = .returned (.slice ao (numB 4 [t, m]).length d) ∧ Own w' w.heap.size ao d (numB 4 [t, m]) ∧ Keeps [] w w' :=
  numbers_any 4 _ 2 [t, m] w (sl_u64s (l := [t, m]) h (by simp)) (by simp [ht, hm]) (by simp)
theorem fns0 (tb sb : Nat) (w : World) : (Instr.index 158 (.agg #[Value.func (Fn.func 75) #[] #[.pointer (some ⟨tb, 0, none⟩), .pointer (some ⟨sb, 0, none⟩)], Value.func (Fn.func 76) #[] #[.pointer (some ⟨tb, 0, none⟩)], Value.func (Fn.func 77) #[] #[.pointer (some ⟨tb, 0, none⟩)]]) (.int .i64 0)).run Tryz.prog w = .ok (Value.func (Fn.func 75) #[] #[.pointer (some ⟨tb, 0, none⟩), .pointer (some ⟨sb, 0, none⟩)]) w := by kernel_rfl
theorem fns1 (tb sb : Nat) (w : World) : (Instr.index 158 (.agg #[Value.func (Fn.func 75) #[] #[.pointer (some ⟨tb, 0, none⟩), .pointer (some ⟨sb, 0, none⟩)], Value.func (Fn.func 76) #[] #[.pointer (some ⟨tb, 0, none⟩)], Value.func (Fn.func 77) #[] #[.pointer (some ⟨tb, 0, none⟩)]]) (.int .i64 1)).run Tryz.prog w = .ok (Value.func (Fn.func 76) #[] #[.pointer (some ⟨tb, 0, none⟩)]) w := by kernel_rfl
theorem fns2 (tb sb : Nat) (w : World) : (Instr.index 158 (.agg #[Value.func (Fn.func 75) #[] #[.pointer (some ⟨tb, 0, none⟩), .pointer (some ⟨sb, 0, none⟩)], Value.func (Fn.func 76) #[] #[.pointer (some ⟨tb, 0, none⟩)], Value.func (Fn.func 77) #[] #[.pointer (some ⟨tb, 0, none⟩)]]) (.int .i64 2)).run Tryz.prog w = .ok (Value.func (Fn.func 77) #[] #[.pointer (some ⟨tb, 0, none⟩)]) w := by kernel_rfl
/-- the same, step by step -/
def DSt.anewI (d : DSt) (B : List UInt8) : Nat → DSt × DRes
  | 0 => (d, .ok)
  | 1 => d.append nmNew B
  | 2 => (d.append nmNew B).1.sync nmNew
  | _ => ((d.append nmNew B).1.sync nmNew).1.rename nmNew nmWal
theorem anewI_count (d : DSt) (B : List UInt8) (i : Nat) : (d.anewI B i).1.count ≤ d.count + 3 := by
  have h1 := append_count d nmNew B
  have h2 := sync_count (d.append nmNew B).1 nmNew
  have h3 := rename_count ((d.append nmNew B).1.sync nmNew).1 nmNew nmWal
  match i with
  | 0 => simp [DSt.anewI]
  | 1 => simp only [DSt.anewI]; omega
  | 2 => simp only [DSt.anewI]; omega
  | _ + 3 => simp only [DSt.anewI]; omega
theorem anewI_bad {d : DSt} {s : Ws} {i : Nat} (hi : i < 3) (h : ∀ k, k ≤ i → (d.anewI (fileOf (anewEvs s)) k).2 = .ok) (hb : (d.anewI (fileOf (anewEvs s)) (i + 1)).2 ≠ .ok) : d.anew s = d.anewI (fileOf (anewEvs s)) (i + 1) := by
  unfold DSt.anew
  match i with
  | 0 =>
    have hb0 : (d.append nmNew (fileOf (anewEvs s))).2 ≠ .ok := hb
    rw [if_pos (DRes.isOk_ne hb0)]
    rfl
  | 1 =>
    have h1 := h 1 (by omega)
    simp only [DSt.anewI] at h1 hb
    rw [if_neg (by rw [h1]; simp [DRes.isOk]), if_pos (DRes.isOk_ne hb)]
    rfl
  | 2 =>
    have h1 := h 1 (by omega)
    have h2 := h 2 (by omega)
    simp only [DSt.anewI] at h1 h2 hb
    rw [if_neg (by rw [h1]; simp [DRes.isOk]), if_neg (by rw [h2]; simp [DRes.isOk])]
    rfl
theorem anewI_ok {d : DSt} {s : Ws} (h : ∀ k, k ≤ 3 → (d.anewI (fileOf (anewEvs s)) k).2 = .ok) : d.anew s = d.anewI (fileOf (anewEvs s)) 3 := by
  unfold DSt.anew
  have h1 := h 1 (by omega)
  have h2 := h 2 (by omega)
  simp only [DSt.anewI] at h1 h2
  rw [if_neg (by rw [h1]; simp [DRes.isOk]), if_neg (by rw [h2]; simp [DRes.isOk])]
  rfl

section
variable {w : World} {wb db : Nat} {s : Ws} {size : Int} {E L : List Nat} {d : DSt}
def APost (w : World) (L : List Nat) (wb db : Nat) (s : Ws) (size : Int) (E : List Nat) (r : DSt × DRes) (e : Ending) (w' : World) : Prop :=
  ∃ ev L', e = .returned ev ∧ DE w' ev r.2 ∧ Disk w' L' db r.1 ∧ WalAt w' wb db s (if r.2.isOk = true then ((fileOf (anewEvs s)).length : Int) else size) E ∧ Keeps (wb :: L) w w' ∧ (∀ x ∈ L', x ∈ L ∨ w.heap.size ≤ x)

set_option maxRecDepth 100000 in
set_option maxHeartbeats 8000000 in
theorem wanew (h : WalAt w wb db s size E) (hD : Disk w L db d) (hs : s.Ok) (hc : d.count < 1000000000) (hl : (fileOf (anewEvs s)).length ≤ 1000000) :
    Calls Tryz.prog 60 #[.pointer (some ⟨wb, 0, none⟩)] w (APost w L wb db s size E (d.anew s)) := by
  obtain ⟨iB, zB, hiB, hzB, hsB, hbB, hcB⟩ := infoBS
  obtain ⟨ao, c, hB, hO, rfl⟩ := h.at_
  have hT := Blk.fresh w 41 #[.pointer (some ⟨wb, 0, none⟩)]
  have hkT := (Keeps.refl [] w).alloc (.cells #[.pointer (some ⟨wb, 0, none⟩)] 41)
  have hB1 := hB.keep hkT (by simp)
  have hO1 := hO.keep0 hkT
  have hD1 := hD.keep0 hkT
  have hwL : wb ∉ L := hD.off hB (by decide) (by decide) (by decide)
  obtain ⟨R, hR⟩ : ∃ R, R = d.anew s := ⟨_, rfl⟩
  rw [← hR]
  have HR := Lib.hid hR
  obtain ⟨tb, htb⟩ : ∃ tb, tb = w.heap.size := ⟨_, rfl⟩
  rw [← htb] at hT
  have H0 := Lib.hid (And.intro hwL (And.intro htb (And.intro hD.lt (And.intro hO.lt (And.intro hB.lt (And.intro hc hl))))))
  clear hR hB hO hD h hwL hc hl
  go_enter Tryz.func60, Tryz.ntmps60
  go_upto_region 1 with (fail)
  rw [← htb]
  clear htb
  generalize World.alloc w _ = w1 at *
  have hR0 : ∀ W : World, Keeps [] w1 W → ∀ q ∈ [((0 : Nat), fun w0 : World => w0.cell? ⟨tb, 0, none⟩ = some (.pointer (some ⟨wb, 0, none⟩))), ((3 : Nat), fun w0 : World => Blk w0 wb 81 (walCells db s ao c size)), ((5 : Nat), fun w0 : World => w0.cell? ⟨tb, 0, none⟩ = some (.pointer (some ⟨wb, 0, none⟩))), ((8 : Nat), fun w0 : World => w0.cell? ⟨wb, 3, none⟩ = some (.int .u64 (s.base : Nat))), ((9 : Nat), fun w0 : World => w0.cell? ⟨tb, 0, none⟩ = some (.pointer (some ⟨wb, 0, none⟩))), ((12 : Nat), fun w0 : World => w0.cell? ⟨wb, 4, none⟩ = some (.int .u64 (s.bt : Nat)))], q.2 W := fun W hW => rdsA (hT.keep hW (by simp)) (hB1.keep hW (by simp))
  have HR0 := Lib.hid hR0
  have hkd := (Keeps.refl [] w1).drew
  have hSw := HR0.out _ hkd
  have H1 := Lib.hid (And.intro hT (And.intro hB1 (And.intro hO1 (And.intro hD1 hkT))))
  clear hR0 hT hB1 hO1 hD1 hkT
  go_cut [3] (fun v wx => ∃ a' c', v = .slice a' 2 c' ∧ AnHead wx w1.heap.size s a' c' ∧ Keeps [] w1 wx)
  case first =>
    refine startU [((0 : Nat), fun w0 : World => w0.cell? ⟨tb, 0, none⟩ = some (.pointer (some ⟨wb, 0, none⟩))), ((3 : Nat), fun w0 : World => Blk w0 wb 81 (walCells db s ao c size)), ((5 : Nat), fun w0 : World => w0.cell? ⟨tb, 0, none⟩ = some (.pointer (some ⟨wb, 0, none⟩))), ((8 : Nat), fun w0 : World => w0.cell? ⟨wb, 3, none⟩ = some (.int .u64 (s.base : Nat))), ((9 : Nat), fun w0 : World => w0.cell? ⟨tb, 0, none⟩ = some (.pointer (some ⟨wb, 0, none⟩))), ((12 : Nat), fun w0 : World => w0.cell? ⟨wb, 4, none⟩ = some (.int .u64 (s.bt : Nat)))] (by kernel_rfl) ?_
    generalize World.drew w1 = w2 at *
    refine takeU (i := 0) (v := ?_) rfl (by kernel_rfl) (fun _ _ _ h => h) (Or.inl ⟨by rfl, fun w0 hw0 => ?_⟩) (fun p hp _ => hSw p hp) ?_
    rotate_left
    · simp [Reads] at hw0
      go_simp
      try with_reducible rfl
    try go_simp
    refine takeU (i := 1) (v := ?_) rfl (by kernel_rfl) (fun _ _ _ h => h) (Or.inl ⟨by rfl, fun w0 hw0 => ?_⟩) (fun p hp _ => hSw p hp) ?_
    rotate_left
    · simp [Reads] at hw0
      go_simp
      try with_reducible rfl
    try go_simp
    refine takeU (i := 2) (v := ?_) rfl (by kernel_rfl) (fun _ _ _ h => h) (Or.inl ⟨by rfl, fun w0 hw0 => ?_⟩) (fun p hp _ => hSw p hp) ?_
    rotate_left
    · simp [Reads] at hw0
      go_simp
      try with_reducible rfl
    try go_simp
    refine takeU (i := 3) (v := .agg #[.int .u64 (s.term : Nat), .int .i64 s.vote]) rfl (by kernel_rfl) (fun _ _ _ h => h) (Or.inl ⟨by rfl, fun w0 hw0 => ?_⟩) (fun p hp _ => hSw p hp) ?_
    · simp [Reads] at hw0
      exact load_yieldsW 25 (.tmp 15) rfl wb 1 2 rfl 81 _ _ hw0 Tryz.underlying25 rfl Tryz.sizeHard (by simp) _ rfl
    refine takeU (i := 5) (v := ?_) rfl (by kernel_rfl) (fun _ _ _ h => h) (Or.inl ⟨by rfl, fun w0 hw0 => ?_⟩) (fun p hp _ => hSw p hp) ?_
    rotate_left
    · simp [Reads] at hw0
      go_simp
      try with_reducible rfl
    try go_simp
    refine takeU (i := 6) (v := ?_) rfl (by kernel_rfl) (fun _ _ _ h => h) (Or.inl ⟨by rfl, fun w0 hw0 => ?_⟩) (fun p hp _ => hSw p hp) ?_
    rotate_left
    · simp [Reads] at hw0
      go_simp
      try with_reducible rfl
    try go_simp
    refine takeU (i := 7) (v := ?_) rfl (by kernel_rfl) (fun _ _ _ h => h) (Or.inl ⟨by rfl, fun w0 hw0 => ?_⟩) (fun p hp _ => hSw p hp) ?_
    rotate_left
    · simp [Reads] at hw0
      go_simp
      try with_reducible rfl
    try go_simp
    refine takeU (i := 8) (v := ?_) rfl (by kernel_rfl) (fun _ _ _ h => h) (Or.inl ⟨by rfl, fun w0 hw0 => ?_⟩) (fun p hp _ => hSw p hp) ?_
    rotate_left
    · simp [Reads] at hw0
      go_simp
      try with_reducible rfl
    try go_simp
    refine takeU (i := 9) (v := ?_) rfl (by kernel_rfl) (fun _ _ _ h => h) (Or.inl ⟨by rfl, fun w0 hw0 => ?_⟩) (fun p hp _ => hSw p hp) ?_
    rotate_left
    · simp [Reads] at hw0
      go_simp
      try with_reducible rfl
    try go_simp
    refine takeU (i := 10) (v := ?_) rfl (by kernel_rfl) (fun _ _ _ h => h) (Or.inl ⟨by rfl, fun w0 hw0 => ?_⟩) (fun p hp _ => hSw p hp) ?_
    rotate_left
    · simp [Reads] at hw0
      go_simp
      try with_reducible rfl
    try go_simp
    refine takeU (i := 11) (v := ?_) rfl (by kernel_rfl) (fun _ _ _ h => h) (Or.inl ⟨by rfl, fun w0 hw0 => ?_⟩) (fun p hp _ => hSw p hp) ?_
    rotate_left
    · simp [Reads] at hw0
      go_simp
      try with_reducible rfl
    try go_simp
    refine takeU (i := 12) (v := ?_) rfl (by kernel_rfl) (fun _ _ _ h => h) (Or.inl ⟨by rfl, fun w0 hw0 => ?_⟩) (fun p hp _ => hSw p hp) ?_
    rotate_left
    · simp [Reads] at hw0
      go_simp
      try with_reducible rfl
    try go_simp
    clear hSw
    refine twoU (i := 4) (j := 13) rfl rfl (by kernel_rfl) (fun K hK => ?_) (fun K hK => ?_)
    · rw [if_pos (show Region.wanted _ _ = true from rfl)]
      go_wp2_with fail
      refine (hardBytes_any s.term s.vote _ hs.term hs.vote).mono ?_
      rintro e w3 ⟨a4, c4, rfl, hO4, hk4⟩
      simp only []
      have hk13 := hkd.trans hk4
      refine hK _ _ (fun q hq _ _ => HR0.out _ hk13 q hq) ?_
      clear hK K
      try go_simp
      refine oneU (i := 13) rfl (by kernel_rfl) (fun K hK => ?_)
      go_simp
      have hk14 := hk13.alloc (.cells #[.int .u64 (s.base : Nat), .int .u64 (s.bt : Nat)] 23)
      have hkL := (Keeps.refl [] w3).alloc (.cells #[.int .u64 (s.base : Nat), .int .u64 (s.bt : Nat)] 23)
      have hY := Blk.fresh w3 23 #[.int .u64 (s.base : Nat), .int .u64 (s.bt : Nat)]
      have hO5 := hO4.keep0 hkL
      refine hK _ _ (fun q hq _ _ => HR0.out _ hk14 q hq) ?_
      clear hK K hO4 hkL
      obtain ⟨yb, hyb⟩ : ∃ yb, yb = w3.heap.size := ⟨_, rfl⟩
      rw [← hyb] at hY ⊢
      clear hyb
      generalize World.alloc w3 _ = w5 at *
      refine oneU (i := 14) rfl (by kernel_rfl) (fun K hK => ?_)
      rw [if_pos (show Region.wanted _ _ = true from rfl)]
      go_wp2_with fail
      refine (numbers2b yb s.base s.bt _ hY (by have := hs.base; omega) hs.bt).mono ?_
      rintro e w6 ⟨a6, c6, rfl, hO6, hk6⟩
      simp only []
      have hk16 := hk14.trans hk6
      have hO56 := hO5.keep0 hk6
      refine hK _ _ (fun q hq _ _ => HR0.out _ hk16 q hq) ?_
      clear hK K
      try go_simp
      refine oneU (i := 15) rfl (by kernel_rfl) (fun K hK => ?_)
      go_simp
      have hk17 := hk16.alloc (.cells #[.slice a4 (Ev.hard s.term s.vote).bytes.length c4, .slice a6 (numB 4 [s.base, s.bt]).length c6] 26)
      have hkM := (Keeps.refl [] w6).alloc (.cells #[.slice a4 (Ev.hard s.term s.vote).bytes.length c4, .slice a6 (numB 4 [s.base, s.bt]).length c6] 26)
      have hZ := anhead (s := s) (Blk.fresh w6 26 #[.slice a4 (Ev.hard s.term s.vote).bytes.length c4, .slice a6 (numB 4 [s.base, s.bt]).length c6]) (N := w1.heap.size) (by have := hk16.size; omega) ((hO56.keep0 hkM).older (by first | exact hkd.size | exact hk13.size | (have := hkd.size; have := hk13.size; omega))) ((hO6.keep0 hkM).older (by first | exact hk14.size | (have := hk14.size; omega)))
      refine hK _ _ (fun q hq _ _ => HR0.out _ hk17 q hq) ?_
      clear hK K
      have hSw := HR0.out _ hk17
      try go_simp
      refine takeU (i := 16) (v := ?_) rfl (by kernel_rfl) (fun _ _ _ h => h) (Or.inl ⟨by rfl, fun w0 hw0 => ?_⟩) (fun p hp _ => hSw p hp) ?_
      rotate_left
      · simp [Reads] at hw0
        go_simp
        try with_reducible rfl
      try go_simp
      refine doneU (by kernel_rfl) ?_
      go_wp2_with fail
      go_meet
      exact ⟨_, _, rfl, hZ, hk17⟩
    · go_simp
      have hk13 := hkd.alloc (.cells #[.int .u64 (s.base : Nat), .int .u64 (s.bt : Nat)] 23)
      have hY3 := Blk.fresh w2 23 #[.int .u64 (s.base : Nat), .int .u64 (s.bt : Nat)]
      refine hK _ _ (fun q hq _ _ => HR0.out _ hk13 q hq) ?_
      clear hK K
      obtain ⟨yb, hyb⟩ : ∃ yb, yb = w2.heap.size := ⟨_, rfl⟩
      rw [← hyb] at hY3 ⊢
      clear hyb
      generalize World.alloc w2 _ = w3 at *
      refine oneU (i := 4) rfl (by kernel_rfl) (fun K hK => ?_)
      rw [if_pos (show Region.wanted _ _ = true from rfl)]
      go_wp2_with fail
      refine (hardBytes_any s.term s.vote _ hs.term hs.vote).mono ?_
      rintro e w5 ⟨a4, c4, rfl, hO4, hk4⟩
      simp only []
      have hk14 := hk13.trans hk4
      refine hK _ _ (fun q hq _ _ => HR0.out _ hk14 q hq) ?_
      clear hK K
      try go_simp
      have hY := hY3.keep hk4 (by simp)
      have hO5 := hO4
      refine oneU (i := 14) rfl (by kernel_rfl) (fun K hK => ?_)
      rw [if_pos (show Region.wanted _ _ = true from rfl)]
      go_wp2_with fail
      refine (numbers2b yb s.base s.bt _ hY (by have := hs.base; omega) hs.bt).mono ?_
      rintro e w6 ⟨a6, c6, rfl, hO6, hk6⟩
      simp only []
      have hk16 := hk14.trans hk6
      have hO56 := hO5.keep0 hk6
      refine hK _ _ (fun q hq _ _ => HR0.out _ hk16 q hq) ?_
      clear hK K
      try go_simp
      refine oneU (i := 15) rfl (by kernel_rfl) (fun K hK => ?_)
      go_simp
      have hk17 := hk16.alloc (.cells #[.slice a4 (Ev.hard s.term s.vote).bytes.length c4, .slice a6 (numB 4 [s.base, s.bt]).length c6] 26)
      have hkM := (Keeps.refl [] w6).alloc (.cells #[.slice a4 (Ev.hard s.term s.vote).bytes.length c4, .slice a6 (numB 4 [s.base, s.bt]).length c6] 26)
      have hZ := anhead (s := s) (Blk.fresh w6 26 #[.slice a4 (Ev.hard s.term s.vote).bytes.length c4, .slice a6 (numB 4 [s.base, s.bt]).length c6]) (N := w1.heap.size) (by have := hk16.size; omega) ((hO56.keep0 hkM).older (by first | exact hkd.size | exact hk13.size | (have := hkd.size; have := hk13.size; omega))) ((hO6.keep0 hkM).older (by first | exact hk14.size | (have := hk14.size; omega)))
      refine hK _ _ (fun q hq _ _ => HR0.out _ hk17 q hq) ?_
      clear hK K
      have hSw := HR0.out _ hk17
      try go_simp
      refine takeU (i := 16) (v := ?_) rfl (by kernel_rfl) (fun _ _ _ h => h) (Or.inl ⟨by rfl, fun w0 hw0 => ?_⟩) (fun p hp _ => hSw p hp) ?_
      rotate_left
      · simp [Reads] at hw0
        go_simp
        try with_reducible rfl
      try go_simp
      refine doneU (by kernel_rfl) ?_
      go_wp2_with fail
      go_meet
      exact ⟨_, _, rfl, hZ, hk17⟩
  case rest =>
    obtain ⟨a3, c3, rfl, ⟨ls, hls2, hBs, hlm⟩, hk2⟩ := hcut
    generalize wc = w2 at *
    obtain ⟨hT, hB1, hO1, hD1, hkT⟩ := H1.out
    have hT2 := hT.keep hk2 (by simp)
    have hB2 := hB1.keep hk2 (by simp)
    have hO2 := hO1.keep0 hk2
    have hD2 := hD1.keep0 hk2
    have hcB := hB2.cell
    have hcT := hT2.cell
    have hlm2 : ls.map (·.l) = ((anewEvs s).take 2).map Ev.bytes := hlm
    have hel : s.es.length ≤ 1000000 := by
      have h1 := fileOf_count (anewEvs s)
      rw [anew_length] at h1
      have := H0.out.2.2.2.2.2.2
      omega
    have H2 := Lib.hid (And.intro hT (And.intro hB1 (And.intro hO1 (And.intro hD1 (And.intro hkT (And.intro hBs (And.intro hls2 (And.intro hlm2 hk2))))))))
    clear hT hB1 hO1 hD1 hkT hk2 hT2 hB2 hO2 hD2 hBs hls2 hlm hlm2 hkd hSw
    go_wp2_with fail
    clear hcB hcT
    go_loopw [3, 34] (fun v i wr => ∃ (j : Nat) (a : Option Addr) (cc : Nat) (l : List Bsl), v = .slice a l.length cc ∧ i = .int .i64 (j : Int) ∧ j ≤ s.es.length ∧ l.map (·.l) = ((anewEvs s).take (j + 2)).map Ev.bytes ∧ BsOwn wr w1.heap.size a cc l ∧ Keeps [] w1 wr) (fun _ i _ => s.es.length - (intOf i).toNat)
    case atStart => exact ⟨0, a3, c3, ls, by rw [H2.out.2.2.2.2.2.2.1], rfl, Nat.zero_le _, H2.out.2.2.2.2.2.2.2.1, H2.out.2.2.2.2.2.1, H2.out.2.2.2.2.2.2.2.2⟩
    case round =>
      obtain ⟨j, a, cc, l, rfl, rfl, hj, hlm, hBs, hk⟩ := hrel
      have hll : l.length = j + 2 := by
        have := congrArg List.length hlm
        simp only [List.length_map, List.length_take, anew_length] at this
        omega
      rcases (by omega : j < s.es.length ∨ j = s.es.length) with hjl | rfl
      · have n1 : (j : Int) < (s.es.length : Int) := by omega
        have s1 : IntKind.i64.wrap ((j : Int) + 1) = j + 1 := IntWalk.i64_in _ (by omega)
        have hv := List.getElem?_eq_getElem hjl
        have hmem := List.getElem_mem hjl
        generalize s.es[j] = x at hv hmem
        have hx := hs.es x hmem
        have hSl := (H2.out.2.2.1.keep0 hk).sl (ents_one _)
        obtain ⟨eb, eo, rfl⟩ := hSl.at (by have := hSl.cap; omega)
        have HRUN := Lib.hid (ent_run hSl hv)
        have hX := Blk.fresh wr 65 x.cells
        have hkX := (Keeps.refl [] wr).alloc (.cells x.cells 65)
        have hEb := entryBytes_any x (wr.alloc (.cells x.cells 65)) hx.2.1 hx.2.2.1 hx.2.2.2
        have HX := Lib.hid (And.intro hEb (And.intro hv (And.intro hx (And.intro hkX (And.intro hBs (And.intro hlm (And.intro hk hll)))))))
        have hb1 : l.length ≤ 1000002 := by omega
        clear hSl hEb hv hx hkX hBs hlm hk hmem hll
        go_wp2_with (first
          | (refine wpList_load_run rfl _ _ rfl eb (eo + j * 5) rfl x.cells.toList HRUN.out _ Tryz.underlying65 rfl Tryz.sizeE ?_)
          | (refine wpList_store_fresh rfl rfl _ _ _ rfl _ rfl rfl _ rfl _ _ Tryz.sizeE (by simp) rfl ?_)
          | (refine wpList_load_agg rfl _ _ rfl wr.heap.size 0 5 rfl 65 _ _ hX Tryz.underlying65 rfl Tryz.sizeE (by simp) _ rfl ?_))
        refine HX.out.1.mono ?_
        rintro e w5 ⟨a5, c5, ev5, B5, rfl, hB5, hO5, hE5, hk5⟩
        rw [if_pos HX.out.2.2.1.1] at hE5
        obtain rfl := hE5.zero.2 rfl
        obtain rfl := hB5 HX.out.2.2.1.1
        have hkM := (Keeps.refl [] w5).alloc (.cells #[.slice a5 (Ev.ent x).bytes.length c5] 26)
        have hBs6 := ((HX.out.2.2.2.2.1.keep0 HX.out.2.2.2.1).keep0 hk5).keep0 hkM
        have hS6 := one_cell (w := w5) (v := .slice a5 (Ev.ent x).bytes.length c5) (t := 26) rfl
        have hk16x := ((HX.out.2.2.2.2.2.2.1.trans HX.out.2.2.2.1).trans hk5).trans hkM
        have hR6 := (hO5.keep0 hkM).older (N' := w1.heap.size) (HX.out.2.2.2.2.2.2.1.trans HX.out.2.2.2.1).size
        have hlt6 := ownsRow_lt hBs6.own
        have H6 := Lib.hid (And.intro hBs6 (And.intro hk16x (And.intro hR6 hk5)))
        clear hE5 hO5 hB5 hkM hk5 hk16x hR6 hX
        go_wp2_with (at_builtin; refine wpList_append_by _ rfl _ _ 87 87 rfl w1.heap.size 26 iB zB 1 24 Tryz.underlying87 hiB hzB hsB hbB hcB a _ cc _ rfl H6.out.1.own _ rfl 1 _ (hS6.src Tryz.underlying87) (by unfold maxLen; omega) (by omega) H6.out.2.1.size ?_; intro a7 c7 w7 hO7 hk7 hb7)
        obtain ⟨hBs6, hk16x, hR6, -⟩ := H6.out
        have hO8 := BsOwn.grow (x := ⟨a5, c5, (Ev.ent x).bytes⟩) hO7 rfl (fun y hy => (hBs6.each y hy).keep hk7 (ownsRow_apart (hBs6.each y hy) hBs6.own (by decide))) (hR6.keep hk7 (ownsRow_apart hR6 hBs6.own (by decide)))
        have hk17 : Keeps [] w1 w7 := hk16x.step hk7 (fun y hy => .inr (hlt6 y hy).1)
        have HO8 := Lib.hid (And.intro hO8 hk17)
        clear hBs6 hk16x hR6 hO8 hk17 hO7 hk7 hlt6 hb7
        go_roundw
        case rel =>
          obtain ⟨-, hv, -, -, -, hlm, -, -⟩ := HX.out
          refine ⟨j + 1, a7, c7, l ++ [⟨a5, c5, (Ev.ent x).bytes⟩], by simp, by simp, by omega, ?_, HO8.out.1, HO8.out.2⟩
          rw [List.map_append, hlm, show j + 1 + 2 = j + 2 + 1 by omega, map_take_succ Ev.bytes (anew_at hv)]
          rfl
        case measure => simp [intOf]; omega
      · rw [show (anewEvs s).take (s.es.length + 2) = anewEvs s from List.take_of_length_le (by rw [anew_length]; omega)] at hlm
        have n1 : ¬ ((s.es.length : Int) < (s.es.length : Int)) := by omega
        have hfr := frs_file hlm
        have hF := framed_any a cc l wr hBs.rbs (fun x hx => by
          have h1 : x.l ∈ (anewEvs s).map Ev.bytes := by rw [← hlm]; exact List.mem_map.2 ⟨x, hx, rfl⟩
          obtain ⟨ev, he, h2⟩ := List.mem_map.1 h1
          have := mays_small _ _ Ws.Ok.nil (by rw [anew_length]; simp; omega) (mays_anew hs) ev he
          rw [← h2]
          omega) (by rw [hfr]; have := H0.out.2.2.2.2.2.2; omega)
        rw [hfr] at hF
        have HF := Lib.hid (And.intro hF hk)
        clear hF hfr hlm hBs hk hll
        go_wp2_with fail
        refine HF.out.1.mono ?_
        rintro e w5 ⟨a5, c5, rfl, hO5, hk5⟩
        obtain ⟨B, hBd⟩ : ∃ B, B = fileOf (anewEvs s) := ⟨_, rfl⟩
        have HBD := Lib.hid hBd
        rw [← hBd] at hO5 ⊢
        clear hBd
        have hk15 := HF.out.2.trans hk5
        have HO5 := Lib.hid (And.intro hO5 hk15)
        clear hO5 hk5 hk15
        go_wp2_with fail
        have hS6 := Blk.fresh w5 26 #[.slice a5 B.length c5]
        have hk56 := (Keeps.refl [] w5).alloc (.cells #[.slice a5 B.length c5] 26)
        obtain ⟨sb, hsb⟩ : ∃ sb, sb = w5.heap.size := ⟨_, rfl⟩
        rw [← hsb] at hS6 ⊢
        obtain ⟨hT, hB1, hO1, hD1, hkT, -⟩ := H2.out
        have hk16 := HO5.out.2.trans hk56
        have hs5 := HO5.out.2.size
        have hT6 := hT.keep hk16 (by simp)
        have hB6 := hB1.keep hk16 (by simp)
        have hO6 := hO1.keep0 hk16
        have hD6 := hD1.keep0 hk16
        have hR6 := HO5.out.1.keep0 hk56
        have hltT := hT.lt
        have hk06 := hkT.trans hk16
        obtain ⟨hwL, htb, hLlt, -, hwlt, hc0, hl0⟩ := H0.out
        have htbL : tb ∉ L := fun hx => by have := hLlt _ hx; omega
        have hsbL : sb ∉ L := fun hx => by have := hLlt _ hx; have := hkT.size; omega
        have hroff : ∀ x ∈ blks a5, x ∉ L := fun x hx hx2 => by have := (HO5.out.1.lt x hx).1; have := hLlt _ hx2; have := hkT.size; have := HF.out.2.size; omega
        have hBL : B.length ≤ 1000000 := by rw [HBD.out]; exact hl0
        generalize World.alloc w5 _ = w6 at *
        have H6 := Lib.hid (And.intro hT6 (And.intro hB6 (And.intro hO6 (And.intro hD6 (And.intro hR6 (And.intro hk06 (And.intro hwL (And.intro htbL (And.intro hsbL (And.intro hroff (And.intro hS6 (And.intro hc0 (And.intro hBL (And.intro hsb hs5))))))))))))))
        clear hT hB1 hO1 hD1 hkT hk16 hs5 hT6 hB6 hO6 hD6 hR6 hltT hk06 hwL htb hLlt hwlt hc0 hl0 htbL hsbL hroff hBL hS6 hk56 hsb
        go_loopw [63] (fun v wq => ∃ (i : Nat) (L' : List Nat), v = .int .i64 (i : Int) ∧ i ≤ 3 ∧ (∀ k, k ≤ i → (d.anewI B k).2 = .ok) ∧ Disk wq L' db (d.anewI B i).1 ∧ Keeps L w6 wq ∧ (∀ x ∈ L', x ∈ L ∨ w6.heap.size ≤ x)) (fun v _ => 3 - (intOf v).toNat)
        case atStart =>
          refine ⟨0, L, rfl, by omega, ?_, H6.out.2.2.2.1, Keeps.refl _ _, fun _ h => .inl h⟩
          intro k hk
          have : k = 0 := by omega
          subst this
          rfl
        case round =>
          obtain ⟨i, L', rfl, hi, hok, hDq, hkq, hLq⟩ := hrel
          obtain ⟨hT6, hB6, hO6, hD6, hR6, hk06, hwL, htbL, hsbL, hroff, hS6, hc0, hBL, hsb, hs5⟩ := H6.out
          have hTq := hT6.keep hkq htbL
          have hBq := hB6.keep hkq hwL
          have hSq := hS6.keep hkq hsbL
          have hRq := hR6.keep hkq hroff
          have hcT := hTq.cell 0
          have hcB := hBq.cell 0
          have hcS := hSq.cell 0
          have hltq := hT6.lt
          have hlts := hS6.lt
          have hltw := hB6.lt
          have hcnt := anewI_count d B i
          have hroff' : ∀ ad, a5 = some ad → bys B ≠ [] → ad.block ∉ L' := fun ad e _ hx => by
            subst e
            rcases hLq _ hx with h | h
            · exact hroff ad.block (by simp) h
            · have := hR6.lt ad.block (by simp); omega
          have HI := Lib.hid (And.intro hok (And.intro hkq (And.intro hLq (And.intro hBq hDq))))
          have hcl : (d.anewI B i).1.count < 4611686018427387904 := by omega
          have C1 := anew1_any (ao := a5) (c := c5) (l := B) hDq hcl (by simpa using hcT) (by simpa using hcB) (by simpa using hcS) hRq.rb hBL hroff'
          have C2 := anew2_any hDq hcl (by simpa using hcT) (by simpa using hcB)
          have C3 := anew3_any hDq hcl (by simpa using hcT) (by simpa using hcB)
          have HC := Lib.hid (And.intro C1 (And.intro C2 C3))
          have fin : ∀ (w9 : World) (ev9 : Value) (L9 : List Nat) (r : DSt × DRes), DE w9 ev9 r.2 → Disk w9 L9 db r.1 → Keeps L' wr w9 → (∀ x ∈ L9, x ∈ L' ∨ wr.heap.size ≤ x) → i < 3 → r = d.anewI B (i + 1) → r.2 ≠ .ok → APost w L wb db s size (blks ao) R (.returned ev9) w9 := by
            rintro w9 ev9 L9 r hE9 hD9 hk9 hL9 hi3 rfl hne
            obtain ⟨hok, hkq, hLq, hBq, hDq⟩ := HI.out
            have hkL : Keeps L w6 w9 := hkq.step hk9 hLq
            have hRe : R = d.anewI B (i + 1) := by
              rw [HR.out, HBD.out]
              rw [HBD.out] at hok hne
              exact anewI_bad hi3 hok hne
            rw [hRe]
            have hk0 := hk06.of_nil.trans hkL
            refine ⟨ev9, L9, rfl, hE9, hD9, ?_, hk0.mono (fun y hy => .tail _ hy), fun x hx => (hL9 x hx).elim (fun h => (hLq x h).imp id (fun h => Nat.le_trans hk06.size h)) (fun h => .inr (Nat.le_trans hk06.size (Nat.le_trans hkq.size h)))⟩
            rw [if_neg (by rw [DRes.isOk_ne hne]; simp)]
            refine ⟨ao, c, hB6.keep hkL hwL, hO6.keep hkL (fun y hy hyL => ?_), rfl⟩
            obtain ⟨cs, hcs⟩ := hO6.kind y hy
            exact hD6.off (b := y) (t := 65) (cs := cs) hcs (by decide) (by decide) (by decide) hyL
          have FIN := Lib.hid fin
          clear fin hTq hBq hSq hRq hDq hcnt hroff' C1 C2 C3 hcl hok hkq hLq hT6 hB6 hO6 hD6 hR6 hk06 hwL htbL hsbL hroff hS6 hc0 hBL hsb hs5
          have s1 : IntKind.i64.wrap ((i : Int) + 1) = i + 1 := IntWalk.i64_in _ (by omega)
          rcases (by omega : i = 0 ∨ i = 1 ∨ i = 2 ∨ i = 3) with rfl | rfl | rfl | rfl
          · have q0 := fns0 tb sb wr
            go_wp2_with fail
            refine (HC.out.1).mono ?_
            rintro e w9 ⟨ev9, L9, rfl, hE9, hD9, hk9, hL9⟩
            rcases hE9.form with ⟨hr, rfl⟩ | ⟨ty, v, rfl, hne⟩
            · have H9 := Lib.hid (And.intro hr (And.intro hD9 (And.intro hk9 hL9)))
              clear hE9 hr hD9 hk9 hL9 q0
              go_wp2_with fail
              go_roundw
              case rel =>
                obtain ⟨hr, hD9, hk9, hL9⟩ := H9.out
                obtain ⟨hok, hkq, hLq, hBq, hDq⟩ := HI.out
                refine ⟨1, L9, by simp, by omega, ?_, hD9, hkq.step hk9 hLq, fun x hx => (hL9 x hx).elim (hLq x) (fun h => .inr (Nat.le_trans hkq.size h))⟩
                intro k hk
                rcases (by omega : k ≤ 0 ∨ k = 1) with h | rfl
                · exact hok k h
                · exact hr
              case measure => simp [intOf]
            · have H9 := Lib.hid (FIN.out w9 _ L9 _ hE9 hD9 hk9 hL9 (by omega) rfl hne)
              clear hE9 hD9 hk9 hL9 q0 hne
              go_wp2_with fail
              go_ret
              exact H9.out
          · have q0 := fns1 tb sb wr
            go_wp2_with fail
            refine (HC.out.2.1).mono ?_
            rintro e w9 ⟨ev9, L9, rfl, hE9, hD9, hk9, hL9⟩
            rcases hE9.form with ⟨hr, rfl⟩ | ⟨ty, v, rfl, hne⟩
            · have H9 := Lib.hid (And.intro hr (And.intro hD9 (And.intro hk9 hL9)))
              clear hE9 hr hD9 hk9 hL9 q0
              go_wp2_with fail
              go_roundw
              case rel =>
                obtain ⟨hr, hD9, hk9, hL9⟩ := H9.out
                obtain ⟨hok, hkq, hLq, hBq, hDq⟩ := HI.out
                refine ⟨2, L9, by simp, by omega, ?_, hD9, hkq.step hk9 hLq, fun x hx => (hL9 x hx).elim (hLq x) (fun h => .inr (Nat.le_trans hkq.size h))⟩
                intro k hk
                rcases (by omega : k ≤ 1 ∨ k = 2) with h | rfl
                · exact hok k h
                · exact hr
              case measure => simp [intOf]
            · have H9 := Lib.hid (FIN.out w9 _ L9 _ hE9 hD9 hk9 hL9 (by omega) rfl hne)
              clear hE9 hD9 hk9 hL9 q0 hne
              go_wp2_with fail
              go_ret
              exact H9.out
          · have q0 := fns2 tb sb wr
            go_wp2_with fail
            refine (HC.out.2.2).mono ?_
            rintro e w9 ⟨ev9, L9, rfl, hE9, hD9, hk9, hL9⟩
            rcases hE9.form with ⟨hr, rfl⟩ | ⟨ty, v, rfl, hne⟩
            · have H9 := Lib.hid (And.intro hr (And.intro hD9 (And.intro hk9 hL9)))
              clear hE9 hr hD9 hk9 hL9 q0
              go_wp2_with fail
              go_roundw
              case rel =>
                obtain ⟨hr, hD9, hk9, hL9⟩ := H9.out
                obtain ⟨hok, hkq, hLq, hBq, hDq⟩ := HI.out
                refine ⟨3, L9, by simp, by omega, ?_, hD9, hkq.step hk9 hLq, fun x hx => (hL9 x hx).elim (hLq x) (fun h => .inr (Nat.le_trans hkq.size h))⟩
                intro k hk
                rcases (by omega : k ≤ 2 ∨ k = 3) with h | rfl
                · exact hok k h
                · exact hr
              case measure => simp [intOf]
            · have H9 := Lib.hid (FIN.out w9 _ L9 _ hE9 hD9 hk9 hL9 (by omega) rfl hne)
              clear hE9 hD9 hk9 hL9 q0 hne
              go_wp2_with fail
              go_ret
              exact H9.out
          · obtain ⟨hok, hkq, hLq, hBq, hDq⟩ := HI.out
            obtain ⟨hT6, hB6, hO6, hD6, hR6, hk06, hwL, htbL, hsbL, hroff, hS6, hc0, hBL, hsb, hs5⟩ := H6.out
            have hcB7 := hBq.cell
            have hfB7 := hBq.free
            have hcT7 := (hT6.keep hkq htbL).cell
            have hcS7 := (hS6.keep hkq hsbL).cell
            have hRe : R = d.anewI B 3 := by
              rw [HR.out, HBD.out]
              rw [HBD.out] at hok
              exact anewI_ok hok
            have hok3 := hok 3 (by omega)
            have hks := (Keeps.refl [wb] wr).set (p := ⟨wb, 6, none⟩) (.inl (by simp)) (.int .i64 (B.length : Nat))
            have hwL' : wb ∉ L' := fun hx => (hLq _ hx).elim hwL (fun h => by omega)
            have fin3 : ∀ W : World, W = wr.setCell ⟨wb, 6, none⟩ (.int .i64 (B.length : Nat)) → APost w L wb db s size (blks ao) R (.returned .nilIface) W := by
              rintro W rfl
              rw [hRe]
              refine ⟨.nilIface, L', rfl, by rw [hok3]; rfl, hDq.keep hks (fun y hy => by simp; rintro rfl; exact hwL' hy), ?_, ((hk06.of_nil.trans hkq).mono (fun y hy => .tail _ hy)).trans (hks.mono (by simp)), fun x hx => (hLq x hx).imp id (fun h => Nat.le_trans hk06.size h)⟩
              rw [if_pos (by rw [hok3]; rfl)]
              refine ⟨ao, c, (hBq.put 6 (.int .i64 (B.length : Nat))).eq (by simp [walCells, HBD.out]), ?_, rfl⟩
              refine (hO6.keep hkq (fun y hy hyL => ?_)).keep hks (fun y hy => by simp; rintro rfl; exact hO6.off hB6 (by decide) hy)
              obtain ⟨cs, hcs⟩ := hO6.kind y hy
              exact hD6.off (b := y) (t := 65) (cs := cs) hcs (by decide) (by decide) (by decide) hyL
            have FIN3 := Lib.hid fin3
            clear fin3 hok hkq hLq hBq hDq hT6 hB6 hO6 hD6 hR6 hk06 hwL htbL hsbL hroff hS6 hc0 hBL hsb hs5 hRe hok3 hks hwL'
            go_wp2_with fail
            go_ret
            exact FIN3.out _ rfl
end
end Go.Proofs.YtfgmbjdeimallaaGreatDoor
/- The wal: frames laid down behind the others. -/

namespace Go.Proofs.YtfgmbjdeimallaaGreatDoor
open Go.RowKit Go.Lib

/-- what lays does with its frames b -/
def DSt.lays (d : DSt) (s : Ws) (size : Int) (b : List UInt8) : DSt × Int × DRes :=
  if 24000 < max size 0 + (b.length : Int) ∧ 0 < size then
    if (d.anew s).2.isOk = false then ((d.anew s).1, size, (d.anew s).2)
    else if ((d.anew s).1.append nmWal b).2.isOk = false then (((d.anew s).1.append nmWal b).1, ((fileOf (anewEvs s)).length : Int), ((d.anew s).1.append nmWal b).2)
    else (((d.anew s).1.append nmWal b).1, ((fileOf (anewEvs s)).length : Int) + (b.length : Int), .ok)
  else if (d.append nmWal b).2.isOk = false then ((d.append nmWal b).1, size, (d.append nmWal b).2)
  else ((d.append nmWal b).1, max size 0 + (b.length : Int), .ok)
theorem anew_count (d : DSt) (s : Ws) : (d.anew s).1.count ≤ d.count + 3 := by
  have h1 := append_count d nmNew (fileOf (anewEvs s))
  have h2 := sync_count (d.append nmNew (fileOf (anewEvs s))).1 nmNew
  have h3 := rename_count ((d.append nmNew (fileOf (anewEvs s))).1.sync nmNew).1 nmNew nmWal
  unfold DSt.anew
  split
  · omega
  · split <;> omega
theorem lays_count (d : DSt) (s : Ws) (size : Int) (b : List UInt8) : (d.lays s size b).1.count ≤ d.count + 4 := by
  have h1 := anew_count d s
  have h2 := append_count (d.anew s).1 nmWal b
  have h3 := append_count d nmWal b
  unfold DSt.lays
  split
  · split
    · simp only; omega
    · split <;> (simp only; omega)
  · split <;> (simp only; omega)

section
variable {w : World} {wb db : Nat} {s : Ws} {size : Int} {E L : List Nat} {d : DSt}
def LPost (w : World) (L : List Nat) (wb db : Nat) (s : Ws) (E : List Nat) (r : DSt × Int × DRes) (e : Ending) (w' : World) : Prop :=
  ∃ ev L', e = .returned ev ∧ DE w' ev r.2.2 ∧ Disk w' L' db r.1 ∧ WalAt w' wb db s r.2.1 E ∧ Keeps (wb :: L) w w' ∧ (∀ x ∈ L', x ∈ L ∨ w.heap.size ≤ x)
/-- the disk's blocks and the wal's lie apart -/
theorem wal_off (h : WalAt w wb db s size E) (hD : Disk w L db d) : wb ∉ L ∧ ∀ x ∈ E, x ∉ L := by
  obtain ⟨ao, c, hB, hO, rfl⟩ := h.at_
  refine ⟨hD.off hB (by decide) (by decide) (by decide), fun x hx hxL => ?_⟩
  obtain ⟨cs, hcs⟩ := hO.kind x hx
  exact hD.off (b := x) (t := 65) (cs := cs) hcs (by decide) (by decide) (by decide) hxL
theorem WalAt.cells (h : WalAt w wb db s size E) : w.cell? ⟨wb, 0, none⟩ = some (.pointer (some ⟨db, 0, none⟩)) ∧ w.cell? ⟨wb, 6, none⟩ = some (.int .i64 size) ∧ w.frozen? ⟨wb, 6, none⟩ = false := by
  obtain ⟨ao, c, hB, hO, rfl⟩ := h.at_
  have h0 := hB.cell 0
  have h6 := hB.cell 6
  exact ⟨by simpa using h0, by simpa using h6, hB.free 6⟩
theorem WalAt.sized (h : WalAt w wb db s size E) (k : Int) : WalAt (w.setCell ⟨wb, 6, none⟩ (.int .i64 k)) wb db s k E ∧ Keeps [wb] w (w.setCell ⟨wb, 6, none⟩ (.int .i64 k)) := by
  obtain ⟨ao, c, hB, hO, rfl⟩ := h.at_
  have hks := (Keeps.refl [wb] w).set (p := ⟨wb, 6, none⟩) (.inl (by simp)) (.int .i64 k)
  exact ⟨⟨ao, c, (hB.put 6 (.int .i64 k)).eq (by simp [walCells]), hO.keep hks (fun y hy => by simp; rintro rfl; exact hO.off hB (by decide) hy), rfl⟩, hks⟩

set_option maxRecDepth 100000 in
set_option maxHeartbeats 8000000 in
theorem wlays (h : WalAt w wb db s size E) (hD : Disk w L db d) (hs : s.Ok) (hc : d.count < 1000000) (hl : (fileOf (anewEvs s)).length ≤ 1000000) (hz : -1 ≤ size ∧ size ≤ 1000000) (lo : Option Addr) (lc : Nat) (ls : List Bsl) (hB : Rbs w lo lc ls) (hm : ∀ x ∈ ls, x.l.length ≤ 262144) (hb : (frs ls).length ≤ 1000000) :
    Calls Tryz.prog 38 #[.pointer (some ⟨wb, 0, none⟩), .slice lo ls.length lc] w (LPost w L wb db s E (d.lays s size (frs ls))) := by
  have hF := framed_any lo lc ls w hB hm (by omega)
  obtain ⟨R, hR⟩ : ∃ R, R = d.lays s size (frs ls) := ⟨_, rfl⟩
  rw [← hR]
  have hoffs := wal_off h hD
  have H0 := Lib.hid (And.intro hF (And.intro hR (And.intro h (And.intro hD (And.intro hoffs (And.intro hc (And.intro hl (And.intro hb hD.lt))))))))
  clear hF hR h hD hB hm hoffs hc hl hb
  go_enter Tryz.func38, Tryz.ntmps38
  go_wp2_with fail
  refine H0.out.1.mono ?_
  rintro e w2 ⟨a2, c2, rfl, hO2, hk2⟩
  obtain ⟨b, hbd⟩ : ∃ b, b = frs ls := ⟨_, rfl⟩
  rw [← hbd] at hO2 ⊢
  obtain ⟨-, hR, h, hD, hoffs, hc, hl, hb, hLlt⟩ := H0.out
  rw [← hbd] at hR hb
  have h2 := h.keep0 hk2
  have hD2 := hD.keep0 hk2
  have hoff2 : ∀ (L' : List Nat) (W : World), w2.heap.size ≤ W.heap.size → (∀ x ∈ L', x ∈ L ∨ w2.heap.size ≤ x) → ∀ ad, a2 = some ad → bys b ≠ [] → ad.block ∉ L' := fun L' W _ hL' ad e _ hx => by
    subst e
    have h1 := hO2.lt ad.block (by simp)
    rcases hL' _ hx with h | h
    · have := hLlt _ h; omega
    · omega
  have hro2 : ∀ x ∈ blks a2, x ∉ wb :: L := fun x hx hx2 => by
    have h1 := hO2.lt x hx
    rcases List.mem_cons.1 hx2 with rfl | h3
    · have := h.lt; omega
    · have := hLlt _ h3; omega
  have H2 := Lib.hid (And.intro h2 (And.intro hD2 (And.intro hO2 (And.intro hk2 (And.intro hR (And.intro hoffs (And.intro hc (And.intro hl (And.intro hb (And.intro hoff2 hro2))))))))))
  obtain ⟨hc0, hc6, hf6⟩ := h2.cells
  obtain ⟨q, hq⟩ : ∃ q : Bool, q = decide (24000 < max size 0 + (b.length : Int) ∧ 0 < size) := ⟨_, rfl⟩
  have hbl : (b.length : Int) ≤ 1000000 := by omega
  clear hbd H0 h2 hD2 hO2 hk2 hR h hD hoffs hc hl hb hLlt hoff2 hro2
  go_upto_region 4 with (fail)
  go_cut [32] (fun v wx => v = .bool q ∧ wx = w2)
  case first =>
    rcases (by omega : size = -1 ∨ size = 0 ∨ 0 < size) with rfl | rfl | hpos
    · obtain rfl : q = false := by rw [hq]; simp
      clear hq
      by_cases hbig : 24000 < (b.length : Int)
      · go_wp2_with fail
        go_meet
        exact ⟨rfl, rfl⟩
      · go_wp2_with fail
        go_meet
        exact ⟨rfl, rfl⟩
    · obtain rfl : q = false := by rw [hq]; simp
      clear hq
      by_cases hbig : 24000 < (b.length : Int)
      · go_wp2_with fail
        go_meet
        exact ⟨rfl, rfl⟩
      · go_wp2_with fail
        go_meet
        exact ⟨rfl, rfl⟩
    · have hnn : ¬ (size < 0) := by omega
      have hmx : max size 0 = size := by omega
      rw [hmx] at hq
      by_cases hbig : 24000 < size + (b.length : Int)
      · obtain rfl : q = true := by rw [hq]; simp; omega
        clear hq
        go_wp2_with fail
        go_meet
        exact ⟨rfl, rfl⟩
      · obtain rfl : q = false := by rw [hq]; simp; omega
        clear hq
        go_wp2_with fail
        go_meet
        exact ⟨rfl, rfl⟩
  case rest =>
  obtain ⟨rfl, hw⟩ := hcut
  obtain rfl := hw.symm
  cases q with
  | true =>
    have hq2 : 24000 < max size 0 + (b.length : Int) ∧ 0 < size := of_decide_eq_true hq.symm
    obtain ⟨h2, hD2, hO2, hk2, hR, hoffs, hc, hl, hb, hoff2, hro2⟩ := H2.out
    have hAn := wanew h2 hD2 hs (by omega) hl
    have hcn := anew_count d s
    have HAn := Lib.hid (And.intro hAn (And.intro hq2 hcn))
    clear h2 hD2 hO2 hk2 hR hoffs hc hl hb hoff2 hro2 hAn hq2 hcn hq
    go_wp2_with fail
    refine HAn.out.1.mono ?_
    rintro e w5 ⟨ev5, L5, rfl, hE5, hD5, hW5, hk5, hL5⟩
    obtain ⟨h2, hD2, hO2, hk2, hR, hoffs, hc, hl, hb, hoff2, hro2⟩ := H2.out
    obtain ⟨-, hq2, hcn⟩ := HAn.out
    unfold DSt.lays at hR
    rw [if_pos hq2] at hR
    rcases hE5.form with ⟨hr, rfl⟩ | ⟨ty, v, rfl, hne⟩
    · rw [if_pos (by rw [hr]; rfl)] at hW5
      rw [if_neg (by rw [hr]; simp [DRes.isOk])] at hR
      obtain ⟨d5, hd5⟩ : ∃ d5, d5 = (d.anew s).1 := ⟨_, rfl⟩
      obtain ⟨z5, hz5⟩ : ∃ z5 : Int, z5 = ((fileOf (anewEvs s)).length : Int) := ⟨_, rfl⟩
      rw [← hd5] at hD5 hR hcn
      rw [← hz5] at hW5 hR
      obtain ⟨W5, hW⟩ : ∃ W5, W5 = w5 := ⟨_, rfl⟩
      rw [← hW] at hW5 hD5 hk5 ⊢
      have HT : Hid ((WalAt W5 wb db s z5 E) ∧ Disk W5 L5 db d5 ∧ Keeps (wb :: L) w W5 ∧ (∀ x ∈ L5, x ∈ L ∨ w2.heap.size ≤ x) ∧ (R = if (d5.append nmWal b).2.isOk = false then ((d5.append nmWal b).1, z5, (d5.append nmWal b).2) else ((d5.append nmWal b).1, max z5 0 + (b.length : Int), .ok)) ∧ d5.count < 1000004 ∧ (-1 ≤ z5 ∧ z5 ≤ 1000000) ∧ w2.heap.size ≤ W5.heap.size ∧ Keeps (wb :: L) w2 W5) := Lib.hid ⟨hW5, hD5, hk2.of_nil.trans hk5, hL5, by rw [hR, show max z5 0 = z5 by omega], by omega, by omega, hk5.size, hk5⟩
      clear h2 hD2 hO2 hk2 hR hoffs hc hl hb hoff2 hro2 hcn hq2 hE5 hr hD5 hW5 hk5 hL5 hd5 hz5 hW hc0 hc6 hf6
      obtain ⟨hWt, hDt, hkt, hLt, hRt, hct, hzt, hst, hk2t⟩ := HT.out
      obtain ⟨hc0, hc6, hf6⟩ := hWt.cells
      have hlwt := hWt.lt
      obtain ⟨-, -, hO2, -, -, hoffs, -, -, hb, hoff2, hro2⟩ := H2.out
      have hOt := hO2.keep hk2t hro2
      have hA := dappend hDt nmWal b (by decide) hOt.rb (by omega) (hoff2 L5 W5 hst hLt) (by omega)
      have HA := Lib.hid hA
      clear hWt hDt hkt hLt hRt hct hst hk2t hO2 hoffs hb hoff2 hro2 hOt hA
      go_wp2_with fail
      refine HA.out.mono ?_
      rintro e w7 ⟨ev7, L7, rfl, hE7, hD7, hk7, hL7⟩
      obtain ⟨hWt, hDt, hkt, hLt, hRt, hct, hzt, hst, hk2t⟩ := HT.out
      obtain ⟨-, -, hO2, hk2, -, hoffs, -, -, hb, hoff2, hro2⟩ := H2.out
      have hoff5 := wal_off hWt hDt
      have hW7 := hWt.keep hk7 hoff5.1 hoff5.2
      have hL07 : ∀ x ∈ L7, x ∈ L ∨ w.heap.size ≤ x := fun x hx => (hL7 x hx).elim (fun h => (hLt x h).imp id (fun h => Nat.le_trans hk2.size h)) (fun h => .inr (Nat.le_trans hkt.size h))
      have hk07 : Keeps (wb :: L) w w7 := hkt.step hk7 (fun x hx => (hLt x hx).elim (fun h => .inl (.tail _ h)) (fun h => .inr (Nat.le_trans hk2.size h)))
      rcases hE7.form with ⟨hr, rfl⟩ | ⟨ty, v, rfl, hne⟩
      · have hRe : R = ((d5.append nmWal b).1, max z5 0 + (b.length : Int), .ok) := by
          rw [hRt, if_neg (by rw [hr]; simp [DRes.isOk])]
        obtain ⟨hc0, hc6, hf6⟩ := hW7.cells
        have fin : ∀ W : World, W = w7.setCell ⟨wb, 6, none⟩ (.int .i64 (max z5 0 + (b.length : Int))) → LPost w L wb db s E R (.returned .nilIface) W := by
          rintro W rfl
          obtain ⟨h8, hk8⟩ := hW7.sized (max z5 0 + (b.length : Int))
          rw [hRe]
          refine ⟨.nilIface, L7, rfl, rfl, hD7.keep hk8 (fun y hy => ?_), h8, hk07.trans (hk8.mono (by simp)), hL07⟩
          simp only [List.mem_singleton]
          rintro rfl
          rcases hL7 _ hy with h | h
          · exact hoff5.1 h
          · have := hWt.lt; omega
        have FIN := Lib.hid fin
        have hlw7 := hW7.lt
        clear fin hRe hE7 hr hD7 hk7 hL7 hoff5 hW7 hL07 hk07 hWt hDt hkt hLt hRt hct hst hk2t hO2 hk2 hoffs hb hoff2 hro2
        go_wp2_with fail
        go_ret
        exact FIN.out _ rfl
      · have hRe : R = ((d5.append nmWal b).1, z5, (d5.append nmWal b).2) := by
          rw [hRt, if_pos (DRes.isOk_ne hne)]
        have H9 : LPost w L wb db s E R (.returned (.iface ty v)) w7 := by
          rw [hRe]
          exact ⟨_, L7, rfl, hE7, hD7, hW7, hk07, hL07⟩
        have HH9 := Lib.hid H9
        clear H9 hRe hE7 hne hD7 hk7 hL7 hoff5 hW7 hL07 hk07 hWt hDt hkt hLt hRt hct hst hk2t hO2 hk2 hoffs hb hoff2 hro2
        go_wp2_with fail
        go_ret
        exact HH9.out
    · rw [if_pos (DRes.isOk_ne hne)] at hR
      rw [if_neg (by rw [DRes.isOk_ne hne]; simp)] at hW5
      have H9 : LPost w L wb db s E R (.returned (.iface ty v)) w5 := by
        rw [hR]
        exact ⟨_, L5, rfl, hE5, hD5, hW5, hk2.of_nil.trans hk5, fun x hx => (hL5 x hx).imp id (fun h => Nat.le_trans hk2.size h)⟩
      have HH9 := Lib.hid H9
      clear h2 hD2 hO2 hk2 hR hoffs hc hl hb hoff2 hro2 hcn hq2 hE5 hne hD5 hW5 hk5 hL5 H9
      go_wp2_with fail
      go_ret
      exact HH9.out
  | false =>
    have hq2 : ¬ (24000 < max size 0 + (b.length : Int) ∧ 0 < size) := of_decide_eq_false hq.symm
    obtain ⟨h2, hD2, hO2, hk2, hR, hoffs, hc, hl, hb, hoff2, hro2⟩ := H2.out
    unfold DSt.lays at hR
    rw [if_neg hq2] at hR
    obtain ⟨d5, hd5⟩ : ∃ d5, d5 = d := ⟨_, rfl⟩
    obtain ⟨z5, hz5⟩ : ∃ z5 : Int, z5 = size := ⟨_, rfl⟩
    obtain ⟨L5, hL5⟩ : ∃ L5, L5 = L := ⟨_, rfl⟩
    obtain ⟨W5, hW⟩ : ∃ W5, W5 = w2 := ⟨_, rfl⟩
    have HT : Hid ((WalAt W5 wb db s z5 E) ∧ Disk W5 L5 db d5 ∧ Keeps (wb :: L) w W5 ∧ (∀ x ∈ L5, x ∈ L ∨ w2.heap.size ≤ x) ∧ (R = if (d5.append nmWal b).2.isOk = false then ((d5.append nmWal b).1, z5, (d5.append nmWal b).2) else ((d5.append nmWal b).1, max z5 0 + (b.length : Int), .ok)) ∧ d5.count < 1000004 ∧ (-1 ≤ z5 ∧ z5 ≤ 1000000) ∧ w2.heap.size ≤ W5.heap.size ∧ Keeps (wb :: L) w2 W5) := by
      subst hd5 hz5 hL5 hW
      exact Lib.hid ⟨h2, hD2, hk2.of_nil, fun x h => .inl h, hR, by omega, hz, Nat.le_refl _, Keeps.refl _ _⟩
    clear h2 hD2 hO2 hk2 hR hoffs hc hl hb hoff2 hro2 hq2 hq hc0 hc6 hf6 hd5 hz5 hL5
    rw [← hW]
    clear hW
    obtain ⟨hWt, hDt, hkt, hLt, hRt, hct, hzt, hst, hk2t⟩ := HT.out
    obtain ⟨hc0, hc6, hf6⟩ := hWt.cells
    have hlwt := hWt.lt
    obtain ⟨-, -, hO2, -, -, hoffs, -, -, hb, hoff2, hro2⟩ := H2.out
    have hOt := hO2.keep hk2t hro2
    have hA := dappend hDt nmWal b (by decide) hOt.rb (by omega) (hoff2 L5 W5 hst hLt) (by omega)
    have HA := Lib.hid hA
    clear hWt hDt hkt hLt hRt hct hst hk2t hO2 hoffs hb hoff2 hro2 hOt hA
    go_wp2_with fail
    refine HA.out.mono ?_
    rintro e w7 ⟨ev7, L7, rfl, hE7, hD7, hk7, hL7⟩
    obtain ⟨hWt, hDt, hkt, hLt, hRt, hct, hzt, hst, hk2t⟩ := HT.out
    obtain ⟨-, -, hO2, hk2, -, hoffs, -, -, hb, hoff2, hro2⟩ := H2.out
    have hoff5 := wal_off hWt hDt
    have hW7 := hWt.keep hk7 hoff5.1 hoff5.2
    have hL07 : ∀ x ∈ L7, x ∈ L ∨ w.heap.size ≤ x := fun x hx => (hL7 x hx).elim (fun h => (hLt x h).imp id (fun h => Nat.le_trans hk2.size h)) (fun h => .inr (Nat.le_trans hkt.size h))
    have hk07 : Keeps (wb :: L) w w7 := hkt.step hk7 (fun x hx => (hLt x hx).elim (fun h => .inl (.tail _ h)) (fun h => .inr (Nat.le_trans hk2.size h)))
    rcases hE7.form with ⟨hr, rfl⟩ | ⟨ty, v, rfl, hne⟩
    · have hRe : R = ((d5.append nmWal b).1, max z5 0 + (b.length : Int), .ok) := by
        rw [hRt, if_neg (by rw [hr]; simp [DRes.isOk])]
      obtain ⟨hc0, hc6, hf6⟩ := hW7.cells
      have fin : ∀ W : World, W = w7.setCell ⟨wb, 6, none⟩ (.int .i64 (max z5 0 + (b.length : Int))) → LPost w L wb db s E R (.returned .nilIface) W := by
        rintro W rfl
        obtain ⟨h8, hk8⟩ := hW7.sized (max z5 0 + (b.length : Int))
        rw [hRe]
        refine ⟨.nilIface, L7, rfl, rfl, hD7.keep hk8 (fun y hy => ?_), h8, hk07.trans (hk8.mono (by simp)), hL07⟩
        simp only [List.mem_singleton]
        rintro rfl
        rcases hL7 _ hy with h | h
        · exact hoff5.1 h
        · have := hWt.lt; omega
      have FIN := Lib.hid fin
      have hlw7 := hW7.lt
      clear fin hRe hE7 hr hD7 hk7 hL7 hoff5 hW7 hL07 hk07 hWt hDt hkt hLt hRt hct hst hk2t hO2 hk2 hoffs hb hoff2 hro2
      go_wp2_with fail
      go_ret
      exact FIN.out _ rfl
    · have hRe : R = ((d5.append nmWal b).1, z5, (d5.append nmWal b).2) := by
        rw [hRt, if_pos (DRes.isOk_ne hne)]
      have H9 : LPost w L wb db s E R (.returned (.iface ty v)) w7 := by
        rw [hRe]
        exact ⟨_, L7, rfl, hE7, hD7, hW7, hk07, hL07⟩
      have HH9 := Lib.hid H9
      clear H9 hRe hE7 hne hD7 hk7 hL7 hoff5 hW7 hL07 hk07 hWt hDt hkt hLt hRt hct hst hk2t hO2 hk2 hoffs hb hoff2 hro2
      go_wp2_with fail
      go_ret
      exact HH9.out
end
end Go.Proofs.YtfgmbjdeimallaaGreatDoor
