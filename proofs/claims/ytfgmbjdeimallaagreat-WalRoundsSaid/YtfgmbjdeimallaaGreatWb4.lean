/- The wal: frames laid down behind the others. -/
import Derived.Test.YtfgmbjdeimallaaGreatWb3

namespace Go.Proofs.YtfgmbjdeimallaaGreat
open Go.RowKit Go.Lib

/-- what lays does with its frames b -/
def DSt.lays (d : DSt) (s : Ws) (size : Int) (b : List UInt8) : DSt × Int × DRes :=
  if 24000 < max size 0 + (b.length : Int) ∧ 0 < size then
    if (d.anew s).2.isOk = false then ((d.anew s).1, size, (d.anew s).2)
    else if ((d.anew s).1.append nmWal b).2.isOk = false then (((d.anew s).1.append nmWal b).1, ((fileOf (anewEvs s)).length : Int), ((d.anew s).1.append nmWal b).2)
    else (((d.anew s).1.append nmWal b).1, ((fileOf (anewEvs s)).length : Int) + (b.length : Int), .ok)
  else if (d.append nmWal b).2.isOk = false then ((d.append nmWal b).1, size, (d.append nmWal b).2)
  else ((d.append nmWal b).1, max size 0 + (b.length : Int), .ok)
theorem anew_count (d : DSt) (s : Ws) : (d.anew s).1.count ≤ d.count + 3 := by
  have h1 := append_count d nmNew (fileOf (anewEvs s))
  have h2 := sync_count (d.append nmNew (fileOf (anewEvs s))).1 nmNew
  have h3 := rename_count ((d.append nmNew (fileOf (anewEvs s))).1.sync nmNew).1 nmNew nmWal
  unfold DSt.anew
  split
  · omega
  · split <;> omega
theorem lays_count (d : DSt) (s : Ws) (size : Int) (b : List UInt8) : (d.lays s size b).1.count ≤ d.count + 4 := by
  have h1 := anew_count d s
  have h2 := append_count (d.anew s).1 nmWal b
  have h3 := append_count d nmWal b
  unfold DSt.lays
  split
  · split
    · simp only; omega
    · split <;> (simp only; omega)
  · split <;> (simp only; omega)

section
variable {w : World} {wb db : Nat} {s : Ws} {size : Int} {E L : List Nat} {d : DSt}
def LPost (w : World) (L : List Nat) (wb db : Nat) (s : Ws) (E : List Nat) (r : DSt × Int × DRes) (e : Ending) (w' : World) : Prop :=
  ∃ ev L', e = .returned ev ∧ DE w' ev r.2.2 ∧ Disk w' L' db r.1 ∧ WalAt w' wb db s r.2.1 E ∧ Keeps (wb :: L) w w' ∧ (∀ x ∈ L', x ∈ L ∨ w.heap.size ≤ x)
/-- the disk's blocks and the wal's lie apart -/
theorem wal_off (h : WalAt w wb db s size E) (hD : Disk w L db d) : wb ∉ L ∧ ∀ x ∈ E, x ∉ L := by
  obtain ⟨ao, c, hB, hO, rfl⟩ := h.at_
  refine ⟨hD.off hB (by decide) (by decide) (by decide), fun x hx hxL => ?_⟩
  obtain ⟨cs, hcs⟩ := hO.kind x hx
  exact hD.off (b := x) (t := 37) (cs := cs) hcs (by decide) (by decide) (by decide) hxL
theorem WalAt.cells (h : WalAt w wb db s size E) : w.cell? ⟨wb, 0, none⟩ = some (.pointer (some ⟨db, 0, none⟩)) ∧ w.cell? ⟨wb, 6, none⟩ = some (.int .i64 size) ∧ w.frozen? ⟨wb, 6, none⟩ = false := by
  obtain ⟨ao, c, hB, hO, rfl⟩ := h.at_
  have h0 := hB.cell 0
  have h6 := hB.cell 6
  exact ⟨by simpa using h0, by simpa using h6, hB.free 6⟩
theorem WalAt.sized (h : WalAt w wb db s size E) (k : Int) : WalAt (w.setCell ⟨wb, 6, none⟩ (.int .i64 k)) wb db s k E ∧ Keeps [wb] w (w.setCell ⟨wb, 6, none⟩ (.int .i64 k)) := by
  obtain ⟨ao, c, hB, hO, rfl⟩ := h.at_
  have hks := (Keeps.refl [wb] w).set (p := ⟨wb, 6, none⟩) (.inl (by simp)) (.int .i64 k)
  exact ⟨⟨ao, c, (hB.put 6 (.int .i64 k)).eq (by simp [walCells]), hO.keep hks (fun y hy => by simp; rintro rfl; exact hO.off hB (by decide) hy), rfl⟩, hks⟩

set_option maxRecDepth 100000 in
set_option maxHeartbeats 8000000 in
theorem wlays (h : WalAt w wb db s size E) (hD : Disk w L db d) (hs : s.Ok) (hc : d.count < 1000000) (hl : (fileOf (anewEvs s)).length ≤ 1000000) (hz : -1 ≤ size ∧ size ≤ 1000000) (lo : Option Addr) (lc : Nat) (ls : List Bsl) (hB : Rbs w lo lc ls) (hm : ∀ x ∈ ls, x.l.length ≤ 262144) (hb : (frs ls).length ≤ 1000000) :
    Calls Tryz.prog 27 #[.pointer (some ⟨wb, 0, none⟩), .slice lo ls.length lc] w (LPost w L wb db s E (d.lays s size (frs ls))) := by
  have hF := framed_any lo lc ls w hB hm (by omega)
  obtain ⟨R, hR⟩ : ∃ R, R = d.lays s size (frs ls) := ⟨_, rfl⟩
  rw [← hR]
  have hoffs := wal_off h hD
  have H0 := Lib.hid (And.intro hF (And.intro hR (And.intro h (And.intro hD (And.intro hoffs (And.intro hc (And.intro hl (And.intro hb hD.lt))))))))
  clear hF hR h hD hB hm hoffs hc hl hb
  go_enter Tryz.func27, Tryz.ntmps27
  go_wp2_with fail
  refine H0.out.1.mono ?_
  rintro e w2 ⟨a2, c2, rfl, hO2, hk2⟩
  obtain ⟨b, hbd⟩ : ∃ b, b = frs ls := ⟨_, rfl⟩
  rw [← hbd] at hO2 ⊢
  obtain ⟨-, hR, h, hD, hoffs, hc, hl, hb, hLlt⟩ := H0.out
  rw [← hbd] at hR hb
  have h2 := h.keep0 hk2
  have hD2 := hD.keep0 hk2
  have hoff2 : ∀ (L' : List Nat) (W : World), w2.heap.size ≤ W.heap.size → (∀ x ∈ L', x ∈ L ∨ w2.heap.size ≤ x) → ∀ ad, a2 = some ad → bys b ≠ [] → ad.block ∉ L' := fun L' W _ hL' ad e _ hx => by
    subst e
    have h1 := hO2.lt ad.block (by simp)
    rcases hL' _ hx with h | h
    · have := hLlt _ h; omega
    · omega
  have hro2 : ∀ x ∈ blks a2, x ∉ wb :: L := fun x hx hx2 => by
    have h1 := hO2.lt x hx
    rcases List.mem_cons.1 hx2 with rfl | h3
    · have := h.lt; omega
    · have := hLlt _ h3; omega
  have H2 := Lib.hid (And.intro h2 (And.intro hD2 (And.intro hO2 (And.intro hk2 (And.intro hR (And.intro hoffs (And.intro hc (And.intro hl (And.intro hb (And.intro hoff2 hro2))))))))))
  obtain ⟨hc0, hc6, hf6⟩ := h2.cells
  obtain ⟨q, hq⟩ : ∃ q : Bool, q = decide (24000 < max size 0 + (b.length : Int) ∧ 0 < size) := ⟨_, rfl⟩
  have hbl : (b.length : Int) ≤ 1000000 := by omega
  clear hbd H0 h2 hD2 hO2 hk2 hR h hD hoffs hc hl hb hLlt hoff2 hro2
  go_upto_region 4 with (fail)
  go_cut [32] (fun v wx => v = .bool q ∧ wx = w2)
  case first =>
    rcases (by omega : size = -1 ∨ size = 0 ∨ 0 < size) with rfl | rfl | hpos
    · obtain rfl : q = false := by rw [hq]; simp
      clear hq
      by_cases hbig : 24000 < (b.length : Int)
      · go_wp2_with fail
        go_meet
        exact ⟨rfl, rfl⟩
      · go_wp2_with fail
        go_meet
        exact ⟨rfl, rfl⟩
    · obtain rfl : q = false := by rw [hq]; simp
      clear hq
      by_cases hbig : 24000 < (b.length : Int)
      · go_wp2_with fail
        go_meet
        exact ⟨rfl, rfl⟩
      · go_wp2_with fail
        go_meet
        exact ⟨rfl, rfl⟩
    · have hnn : ¬ (size < 0) := by omega
      have hmx : max size 0 = size := by omega
      rw [hmx] at hq
      by_cases hbig : 24000 < size + (b.length : Int)
      · obtain rfl : q = true := by rw [hq]; simp; omega
        clear hq
        go_wp2_with fail
        go_meet
        exact ⟨rfl, rfl⟩
      · obtain rfl : q = false := by rw [hq]; simp; omega
        clear hq
        go_wp2_with fail
        go_meet
        exact ⟨rfl, rfl⟩
  case rest =>
  obtain ⟨rfl, hw⟩ := hcut
  obtain rfl := hw.symm
  cases q with
  | true =>
    have hq2 : 24000 < max size 0 + (b.length : Int) ∧ 0 < size := of_decide_eq_true hq.symm
    obtain ⟨h2, hD2, hO2, hk2, hR, hoffs, hc, hl, hb, hoff2, hro2⟩ := H2.out
    have hAn := wanew h2 hD2 hs (by omega) hl
    have hcn := anew_count d s
    have HAn := Lib.hid (And.intro hAn (And.intro hq2 hcn))
    clear h2 hD2 hO2 hk2 hR hoffs hc hl hb hoff2 hro2 hAn hq2 hcn hq
    go_wp2_with fail
    refine HAn.out.1.mono ?_
    rintro e w5 ⟨ev5, L5, rfl, hE5, hD5, hW5, hk5, hL5⟩
    obtain ⟨h2, hD2, hO2, hk2, hR, hoffs, hc, hl, hb, hoff2, hro2⟩ := H2.out
    obtain ⟨-, hq2, hcn⟩ := HAn.out
    unfold DSt.lays at hR
    rw [if_pos hq2] at hR
    rcases hE5.form with ⟨hr, rfl⟩ | ⟨ty, v, rfl, hne⟩
    · rw [if_pos (by rw [hr]; rfl)] at hW5
      rw [if_neg (by rw [hr]; simp [DRes.isOk])] at hR
      obtain ⟨d5, hd5⟩ : ∃ d5, d5 = (d.anew s).1 := ⟨_, rfl⟩
      obtain ⟨z5, hz5⟩ : ∃ z5 : Int, z5 = ((fileOf (anewEvs s)).length : Int) := ⟨_, rfl⟩
      rw [← hd5] at hD5 hR hcn
      rw [← hz5] at hW5 hR
      obtain ⟨W5, hW⟩ : ∃ W5, W5 = w5 := ⟨_, rfl⟩
      rw [← hW] at hW5 hD5 hk5 ⊢
      have HT : Hid ((WalAt W5 wb db s z5 E) ∧ Disk W5 L5 db d5 ∧ Keeps (wb :: L) w W5 ∧ (∀ x ∈ L5, x ∈ L ∨ w2.heap.size ≤ x) ∧ (R = if (d5.append nmWal b).2.isOk = false then ((d5.append nmWal b).1, z5, (d5.append nmWal b).2) else ((d5.append nmWal b).1, max z5 0 + (b.length : Int), .ok)) ∧ d5.count < 1000004 ∧ (-1 ≤ z5 ∧ z5 ≤ 1000000) ∧ w2.heap.size ≤ W5.heap.size ∧ Keeps (wb :: L) w2 W5) := Lib.hid ⟨hW5, hD5, hk2.of_nil.trans hk5, hL5, by rw [hR, show max z5 0 = z5 by omega], by omega, by omega, hk5.size, hk5⟩
      clear h2 hD2 hO2 hk2 hR hoffs hc hl hb hoff2 hro2 hcn hq2 hE5 hr hD5 hW5 hk5 hL5 hd5 hz5 hW hc0 hc6 hf6
      obtain ⟨hWt, hDt, hkt, hLt, hRt, hct, hzt, hst, hk2t⟩ := HT.out
      obtain ⟨hc0, hc6, hf6⟩ := hWt.cells
      have hlwt := hWt.lt
      obtain ⟨-, -, hO2, -, -, hoffs, -, -, hb, hoff2, hro2⟩ := H2.out
      have hOt := hO2.keep hk2t hro2
      have hA := dappend hDt nmWal b (by decide) hOt.rb (by omega) (hoff2 L5 W5 hst hLt) (by omega)
      have HA := Lib.hid hA
      clear hWt hDt hkt hLt hRt hct hst hk2t hO2 hoffs hb hoff2 hro2 hOt hA
      go_wp2_with fail
      refine HA.out.mono ?_
      rintro e w7 ⟨ev7, L7, rfl, hE7, hD7, hk7, hL7⟩
      obtain ⟨hWt, hDt, hkt, hLt, hRt, hct, hzt, hst, hk2t⟩ := HT.out
      obtain ⟨-, -, hO2, hk2, -, hoffs, -, -, hb, hoff2, hro2⟩ := H2.out
      have hoff5 := wal_off hWt hDt
      have hW7 := hWt.keep hk7 hoff5.1 hoff5.2
      have hL07 : ∀ x ∈ L7, x ∈ L ∨ w.heap.size ≤ x := fun x hx => (hL7 x hx).elim (fun h => (hLt x h).imp id (fun h => Nat.le_trans hk2.size h)) (fun h => .inr (Nat.le_trans hkt.size h))
      have hk07 : Keeps (wb :: L) w w7 := hkt.step hk7 (fun x hx => (hLt x hx).elim (fun h => .inl (.tail _ h)) (fun h => .inr (Nat.le_trans hk2.size h)))
      rcases hE7.form with ⟨hr, rfl⟩ | ⟨ty, v, rfl, hne⟩
      · have hRe : R = ((d5.append nmWal b).1, max z5 0 + (b.length : Int), .ok) := by
          rw [hRt, if_neg (by rw [hr]; simp [DRes.isOk])]
        obtain ⟨hc0, hc6, hf6⟩ := hW7.cells
        have fin : ∀ W : World, W = w7.setCell ⟨wb, 6, none⟩ (.int .i64 (max z5 0 + (b.length : Int))) → LPost w L wb db s E R (.returned .nilIface) W := by
          rintro W rfl
          obtain ⟨h8, hk8⟩ := hW7.sized (max z5 0 + (b.length : Int))
          rw [hRe]
          refine ⟨.nilIface, L7, rfl, rfl, hD7.keep hk8 (fun y hy => ?_), h8, hk07.trans (hk8.mono (by simp)), hL07⟩
          simp only [List.mem_singleton]
          rintro rfl
          rcases hL7 _ hy with h | h
          · exact hoff5.1 h
          · have := hWt.lt; omega
        have FIN := Lib.hid fin
        have hlw7 := hW7.lt
        clear fin hRe hE7 hr hD7 hk7 hL7 hoff5 hW7 hL07 hk07 hWt hDt hkt hLt hRt hct hst hk2t hO2 hk2 hoffs hb hoff2 hro2
        go_wp2_with fail
        go_ret
        exact FIN.out _ rfl
      · have hRe : R = ((d5.append nmWal b).1, z5, (d5.append nmWal b).2) := by
          rw [hRt, if_pos (DRes.isOk_ne hne)]
        have H9 : LPost w L wb db s E R (.returned (.iface ty v)) w7 := by
          rw [hRe]
          exact ⟨_, L7, rfl, hE7, hD7, hW7, hk07, hL07⟩
        have HH9 := Lib.hid H9
        clear H9 hRe hE7 hne hD7 hk7 hL7 hoff5 hW7 hL07 hk07 hWt hDt hkt hLt hRt hct hst hk2t hO2 hk2 hoffs hb hoff2 hro2
        go_wp2_with fail
        go_ret
        exact HH9.out
    · rw [if_pos (DRes.isOk_ne hne)] at hR
      rw [if_neg (by rw [DRes.isOk_ne hne]; simp)] at hW5
      have H9 : LPost w L wb db s E R (.returned (.iface ty v)) w5 := by
        rw [hR]
        exact ⟨_, L5, rfl, hE5, hD5, hW5, hk2.of_nil.trans hk5, fun x hx => (hL5 x hx).imp id (fun h => Nat.le_trans hk2.size h)⟩
      have HH9 := Lib.hid H9
      clear h2 hD2 hO2 hk2 hR hoffs hc hl hb hoff2 hro2 hcn hq2 hE5 hne hD5 hW5 hk5 hL5 H9
      go_wp2_with fail
      go_ret
      exact HH9.out
  | false =>
    have hq2 : ¬ (24000 < max size 0 + (b.length : Int) ∧ 0 < size) := of_decide_eq_false hq.symm
    obtain ⟨h2, hD2, hO2, hk2, hR, hoffs, hc, hl, hb, hoff2, hro2⟩ := H2.out
    unfold DSt.lays at hR
    rw [if_neg hq2] at hR
    obtain ⟨d5, hd5⟩ : ∃ d5, d5 = d := ⟨_, rfl⟩
    obtain ⟨z5, hz5⟩ : ∃ z5 : Int, z5 = size := ⟨_, rfl⟩
    obtain ⟨L5, hL5⟩ : ∃ L5, L5 = L := ⟨_, rfl⟩
    obtain ⟨W5, hW⟩ : ∃ W5, W5 = w2 := ⟨_, rfl⟩
    have HT : Hid ((WalAt W5 wb db s z5 E) ∧ Disk W5 L5 db d5 ∧ Keeps (wb :: L) w W5 ∧ (∀ x ∈ L5, x ∈ L ∨ w2.heap.size ≤ x) ∧ (R = if (d5.append nmWal b).2.isOk = false then ((d5.append nmWal b).1, z5, (d5.append nmWal b).2) else ((d5.append nmWal b).1, max z5 0 + (b.length : Int), .ok)) ∧ d5.count < 1000004 ∧ (-1 ≤ z5 ∧ z5 ≤ 1000000) ∧ w2.heap.size ≤ W5.heap.size ∧ Keeps (wb :: L) w2 W5) := by
      subst hd5 hz5 hL5 hW
      exact Lib.hid ⟨h2, hD2, hk2.of_nil, fun x h => .inl h, hR, by omega, hz, Nat.le_refl _, Keeps.refl _ _⟩
    clear h2 hD2 hO2 hk2 hR hoffs hc hl hb hoff2 hro2 hq2 hq hc0 hc6 hf6 hd5 hz5 hL5
    rw [← hW]
    clear hW
    obtain ⟨hWt, hDt, hkt, hLt, hRt, hct, hzt, hst, hk2t⟩ := HT.out
    obtain ⟨hc0, hc6, hf6⟩ := hWt.cells
    have hlwt := hWt.lt
    obtain ⟨-, -, hO2, -, -, hoffs, -, -, hb, hoff2, hro2⟩ := H2.out
    have hOt := hO2.keep hk2t hro2
    have hA := dappend hDt nmWal b (by decide) hOt.rb (by omega) (hoff2 L5 W5 hst hLt) (by omega)
    have HA := Lib.hid hA
    clear hWt hDt hkt hLt hRt hct hst hk2t hO2 hoffs hb hoff2 hro2 hOt hA
    go_wp2_with fail
    refine HA.out.mono ?_
    rintro e w7 ⟨ev7, L7, rfl, hE7, hD7, hk7, hL7⟩
    obtain ⟨hWt, hDt, hkt, hLt, hRt, hct, hzt, hst, hk2t⟩ := HT.out
    obtain ⟨-, -, hO2, hk2, -, hoffs, -, -, hb, hoff2, hro2⟩ := H2.out
    have hoff5 := wal_off hWt hDt
    have hW7 := hWt.keep hk7 hoff5.1 hoff5.2
    have hL07 : ∀ x ∈ L7, x ∈ L ∨ w.heap.size ≤ x := fun x hx => (hL7 x hx).elim (fun h => (hLt x h).imp id (fun h => Nat.le_trans hk2.size h)) (fun h => .inr (Nat.le_trans hkt.size h))
    have hk07 : Keeps (wb :: L) w w7 := hkt.step hk7 (fun x hx => (hLt x hx).elim (fun h => .inl (.tail _ h)) (fun h => .inr (Nat.le_trans hk2.size h)))
    rcases hE7.form with ⟨hr, rfl⟩ | ⟨ty, v, rfl, hne⟩
    · have hRe : R = ((d5.append nmWal b).1, max z5 0 + (b.length : Int), .ok) := by
        rw [hRt, if_neg (by rw [hr]; simp [DRes.isOk])]
      obtain ⟨hc0, hc6, hf6⟩ := hW7.cells
      have fin : ∀ W : World, W = w7.setCell ⟨wb, 6, none⟩ (.int .i64 (max z5 0 + (b.length : Int))) → LPost w L wb db s E R (.returned .nilIface) W := by
        rintro W rfl
        obtain ⟨h8, hk8⟩ := hW7.sized (max z5 0 + (b.length : Int))
        rw [hRe]
        refine ⟨.nilIface, L7, rfl, rfl, hD7.keep hk8 (fun y hy => ?_), h8, hk07.trans (hk8.mono (by simp)), hL07⟩
        simp only [List.mem_singleton]
        rintro rfl
        rcases hL7 _ hy with h | h
        · exact hoff5.1 h
        · have := hWt.lt; omega
      have FIN := Lib.hid fin
      have hlw7 := hW7.lt
      clear fin hRe hE7 hr hD7 hk7 hL7 hoff5 hW7 hL07 hk07 hWt hDt hkt hLt hRt hct hst hk2t hO2 hk2 hoffs hb hoff2 hro2
      go_wp2_with fail
      go_ret
      exact FIN.out _ rfl
    · have hRe : R = ((d5.append nmWal b).1, z5, (d5.append nmWal b).2) := by
        rw [hRt, if_pos (DRes.isOk_ne hne)]
      have H9 : LPost w L wb db s E R (.returned (.iface ty v)) w7 := by
        rw [hRe]
        exact ⟨_, L7, rfl, hE7, hD7, hW7, hk07, hL07⟩
      have HH9 := Lib.hid H9
      clear H9 hRe hE7 hne hD7 hk7 hL7 hoff5 hW7 hL07 hk07 hWt hDt hkt hLt hRt hct hst hk2t hO2 hk2 hoffs hb hoff2 hro2
      go_wp2_with fail
      go_ret
      exact HH9.out
end
end Go.Proofs.YtfgmbjdeimallaaGreat
