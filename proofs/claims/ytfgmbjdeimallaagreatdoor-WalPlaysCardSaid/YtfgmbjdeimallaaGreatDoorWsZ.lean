/- The wal: SetHard, Cut, Drop, Sync. -/
import Derived.Test.YtfgmbjdeimallaaGreatDoorWbZ

namespace Go.Proofs.YtfgmbjdeimallaaGreatDoor
open Go.RowKit Go.Lib

/-- what a call of the wal leaves: r: the disk, the file's size, the error; s': the wal behind it, if it is done -/
def WPost (w : World) (L E : List Nat) (wb db : Nat) (s s' : Ws) (r : DSt × Int × DRes) (e : Ending) (w' : World) : Prop :=
  ∃ ev L' E', e = .returned ev ∧ DE w' ev r.2.2 ∧ Disk w' L' db r.1 ∧ WalAt w' wb db (if r.2.2.isOk = true then s' else s) r.2.1 E' ∧ Keeps (wb :: (L ++ E)) w w' ∧ (∀ x ∈ L', x ∈ L ∨ w.heap.size ≤ x) ∧ (∀ x ∈ E', x ∈ E ∨ w.heap.size ≤ x)

section
variable {w : World} {wb db : Nat} {s : Ws} {size : Int} {E L : List Nat} {d : DSt}
/-- one list of bytes, just made -/
theorem rbs1 {w : World} {N : Nat} {a : Option Addr} {c : Nat} {l : List UInt8} (h : Own w N a c l) : Rbs (w.alloc (.cells #[.slice a l.length c] 26)) (some ⟨w.heap.size, 0, none⟩) 1 [⟨a, c, l⟩] :=
  ⟨one_cell rfl, fun x hx => by simp at hx; subst hx; exact (h.keep0 ((Keeps.refl [] w).alloc _)).rb⟩
theorem frs1 (a : Option Addr) (c : Nat) (e : Ev) : frs [⟨a, c, e.bytes⟩] = fileOf [e] := by simp [frs, fileOf]
theorem fileOf1 (e : Ev) : (fileOf [e]).length = e.bytes.length + 8 := by simp [fileOf, frame_length]
theorem keepsWL {w w' : World} {E L : List Nat} {wb : Nat} (h : Keeps (wb :: L) w w') : Keeps (wb :: (L ++ E)) w w' := h.mono (fun x hx => by
  rcases List.mem_cons.1 hx with rfl | h
  · exact .head _
  · exact .tail _ (List.mem_append.2 (.inl h)))
theorem keepsW {w w' : World} {E L : List Nat} {wb : Nat} (h : Keeps [wb] w w') : Keeps (wb :: (L ++ E)) w w' := h.mono (by simp)

/-- a call that is refused -/
theorem refused (h : WalAt w wb db s size E) (hD : Disk w L db d) (s' : Ws) (p : List UInt8) (c : Int) (g : Nat) (w' : World) (hk : Keeps [] w w') (hB : Blk w' g 97 #[.string ⟨p.toArray⟩, .iface 75 (.int .i64 c)]) : WPost w L E wb db s s' (d, size, .bad p c) (.returned (.iface 95 (.pointer (some ⟨g, 0, none⟩)))) w' :=
  ⟨_, L, E, rfl, ⟨g, rfl, hB⟩, hD.keep0 hk, h.keep0 hk, hk.of_nil, fun _ h => .inl h, fun _ h => .inl h⟩

abbrev ptVote : List UInt8 := [118, 111, 116, 101]
abbrev ptCut : List UInt8 := [99, 117, 116]
abbrev ptDrop : List UInt8 := [100, 114, 111, 112]

set_option maxRecDepth 100000 in
set_option maxHeartbeats 4000000 in
theorem wsethard_bad (h : WalAt w wb db s size E) (hD : Disk w L db d) (t : Nat) (v : Int) (hv : v < -1 ∨ 1000 < v) :
    Calls Tryz.prog 13 #[.pointer (some ⟨wb, 0, none⟩), .agg #[.int .u64 (t : Nat), .int .i64 v]] w (WPost w L E wb db s (s.ev (.hard t v)) (d, size, .bad ptVote 20)) := by
  have hk := ((Keeps.refl [] w).alloc (.cells #[.int .u64 (t : Nat), .int .i64 v] 25)).alloc (.cells #[.string ⟨ptVote.toArray⟩, .iface 75 (.int .i64 20)] 97)
  have FIN := Lib.hid (refused h hD (s.ev (.hard t v)) ptVote 20 (w.heap.size + 1) _ hk (Blk.fresh_at _ _ _ (by simp)))
  have hX := Blk.fresh w 25 #[.int .u64 (t : Nat), .int .i64 v]
  have hc := hX.cell
  clear hk hX h hD
  rcases (by omega : v < -1 ∨ (¬ (v < -1) ∧ 1000 < v)) with h1 | ⟨h1, h2⟩
  · clear hv
    go_enter Tryz.func13, Tryz.ntmps13
    go_wp2_with fail
    go_ret
    exact FIN.out
  · clear hv
    go_enter Tryz.func13, Tryz.ntmps13
    go_wp2_with fail
    go_ret
    exact FIN.out

set_option maxRecDepth 100000 in
set_option maxHeartbeats 4000000 in
theorem wsethard (h : WalAt w wb db s size E) (hD : Disk w L db d) (hs : s.Ok) (hc : d.count < 1000000) (hl : (fileOf (anewEvs s)).length ≤ 1000000) (hz : -1 ≤ size ∧ size ≤ 1000000) (t : Nat) (v : Int) (ht : t < 18446744073709551616) (hv : -1 ≤ v ∧ v ≤ 1000) :
    Calls Tryz.prog 13 #[.pointer (some ⟨wb, 0, none⟩), .agg #[.int .u64 (t : Nat), .int .i64 v]] w (WPost w L E wb db s (s.ev (.hard t v)) (d.lays s size (fileOf [.hard t v]))) := by
  have hX := Blk.fresh w 25 #[.int .u64 (t : Nat), .int .i64 v]
  have hkX := (Keeps.refl [] w).alloc (.cells #[.int .u64 (t : Nat), .int .i64 v] 25)
  have hcX := hX.cell
  have hHB := hardBytes_any t v (w.alloc (.cells #[.int .u64 (t : Nat), .int .i64 v] 25)) ht hv
  have hbl : (Ev.hard t v).bytes.length ≤ 13 := Ev.bytes_length (s := Ws.nil) Ws.Ok.nil (by simp) (e := .hard t v) ⟨ht, hv⟩
  obtain ⟨R, hR⟩ : ∃ R, R = d.lays s size (fileOf [.hard t v]) := ⟨_, rfl⟩
  rw [← hR]
  have H0 := Lib.hid (And.intro hHB (And.intro hX (And.intro hkX (And.intro h (And.intro hD (And.intro hbl hR))))))
  have n1 : ¬ (v < -1) := by omega
  have n2 : ¬ (1000 < v) := by omega
  clear hX hkX hHB hbl hR h hD
  go_enter Tryz.func13, Tryz.ntmps13
  go_wp2_with fail
  refine H0.out.1.mono ?_
  rintro e w2 ⟨a2, c2, rfl, hO2, hk2⟩
  obtain ⟨-, hX, hkX, h, hD, hbl, hR⟩ := H0.out
  have hkL := (Keeps.refl [] w2).alloc (.cells #[.slice a2 (Ev.hard t v).bytes.length c2] 26)
  have hk03 := (hkX.trans hk2).trans hkL
  have h3 := h.keep0 hk03
  have hD3 := hD.keep0 hk03
  have hX3 := (hX.keep hk2 (by simp)).keep hkL (by simp)
  have hoff := h3.off hX3 (by decide) (by decide)
  have hoffL := hD3.off hX3 (by decide) (by decide) (by decide)
  have hLy := wlays h3 hD3 hs hc hl hz _ 1 _ (rbs1 hO2) (by intro x hx; simp at hx; subst hx; simp only; omega) (by rw [frs1, fileOf1]; omega)
  rw [frs1, ← hR] at hLy
  have H3 := Lib.hid (And.intro hLy (And.intro hk03 (And.intro hX3 (And.intro hoff hoffL))))
  clear hX hkX h hD hbl hR hkL hk03 h3 hD3 hX3 hoff hoffL hLy hcX hO2 hk2
  go_wp2_with fail
  refine H3.out.1.mono ?_
  rintro e w4 ⟨ev4, L4, rfl, hE4, hD4, hW4, hk4, hL4⟩
  obtain ⟨-, hk03, hX3, hoff, hoffL⟩ := H3.out
  have hX4 := hX3.keep hk4 (by simp [hoff.1, hoffL])
  have hcX := hX4.cell
  have hL04 : ∀ x ∈ L4, x ∈ L ∨ w.heap.size ≤ x := fun x hx => (hL4 x hx).imp id (fun h => Nat.le_trans hk03.size h)
  have hk04 : Keeps (wb :: (L ++ E)) w w4 := keepsWL (hk03.of_nil.trans hk4)
  rcases hE4.form with ⟨hr, rfl⟩ | ⟨ty, u, rfl, hne⟩
  · have hoff4 := wal_off hW4 hD4
    obtain ⟨ao, c, hB4, hO4, hEe⟩ := hW4.at_
    have hlw := hB4.lt
    have H4 := Lib.hid (And.intro hr (And.intro hD4 (And.intro hB4 (And.intro hO4 (And.intro hEe (And.intro hoff4 (And.intro hL04 hk04)))))))
    clear hE4 hr hD4 hW4 hk4 hL4 hk03 hX3 hoff hoffL hX4 hL04 hk04 hoff4 hO4 hEe
    go_wp2_with (refine wpList_store_agg rfl rfl 25 _ _ rfl wb 1 rfl [.int .u64 (t : Nat), .int .i64 v] rfl 81 _ hB4 Tryz.sizeHard (by simp [walCells]) rfl _ rfl ?_; intro w6 hM6 hk6)
    go_ret
    obtain ⟨hr, hD4, hB4, hO4, hEe, hoff4, hL04, hk04⟩ := H4.out
    refine ⟨.nilIface, L4, E, rfl, by rw [hr]; rfl, hD4.keep hk6 (fun y hy => by simp; rintro rfl; exact hoff4.1 hy), ?_, hk04.trans (keepsW hk6), hL04, fun _ h => .inl h⟩
    rw [if_pos (by rw [hr]; rfl)]
    exact ⟨ao, c, hM6.eq (by simp [walCells, Ws.ev]), hO4.keep hk6 (fun y hy => by simp; rintro rfl; exact hO4.off hB4 (by decide) hy), hEe⟩
  · have HH : WPost w L E wb db s (s.ev (.hard t v)) R (.returned (.iface ty u)) w4 := by
      refine ⟨_, L4, E, rfl, hE4, hD4, ?_, hk04, hL04, fun _ h => .inl h⟩
      rw [if_neg (by rw [DRes.isOk_ne hne]; simp)]
      exact hW4
    have HHH := Lib.hid HH
    clear HH hE4 hne hD4 hW4 hk4 hL4 hk03 hX3 hoff hoffL hX4 hL04 hk04
    go_wp2_with fail
    go_ret
    exact HHH.out
end
end Go.Proofs.YtfgmbjdeimallaaGreatDoor
/- The wal: Cut, Drop, Sync. -/

namespace Go.Proofs.YtfgmbjdeimallaaGreatDoor
open Go.RowKit Go.Lib

section
variable {w : World} {wb db : Nat} {s : Ws} {size : Int} {E L : List Nat} {d : DSt}
set_option maxRecDepth 100000 in
set_option maxHeartbeats 4000000 in
theorem wcut_bad (h : WalAt w wb db s size E) (hD : Disk w L db d) (hs : s.Ok) (hl : s.es.length ≤ 1000000) (n : Nat) (hn : n < 18446744073709551616) (hv : ¬ (Ev.cut n).May s) :
    Calls Tryz.prog 22 #[.pointer (some ⟨wb, 0, none⟩), .int .u64 (n : Nat)] w (WPost w L E wb db s (s.ev (.cut n)) (d, size, .bad ptCut 40)) := by
  obtain ⟨ao, c, hB, hO, rfl⟩ := h.at_
  have hcB := hB.cell
  have hbs := hs.base
  have fin : ∀ k : Nat, WPost w L (blks ao) wb db s (s.ev (.cut n)) (d, size, .bad ptCut 40) (.returned (.iface 95 (.pointer (some ⟨w.heap.size, 0, none⟩)))) ((w.drewN k).alloc (.cells #[.string ⟨ptCut.toArray⟩, .iface 75 (.int .i64 40)] 97)) := fun k =>
    refused h hD _ ptCut 40 w.heap.size _ (((Keeps.refl [] w).drewN k).alloc _) (Blk.fresh (w.drewN k) _ _)
  have FIN := Lib.hid fin
  unfold Ev.May Ws.last at hv
  rcases (by omega : n ≤ s.base ∨ (¬ (n ≤ s.base) ∧ s.es.length < n - s.base - 1)) with h1 | ⟨h1, h2⟩
  · have n1 : (n : Int) ≤ (s.base : Int) := by omega
    clear hv fin h hD hB hO
    go_enter Tryz.func22, Tryz.ntmps22
    go_wp2_with fail
    go_quiet (fail)
    go_wp2_with fail
    go_ret
    exact FIN.out _
  · have n1 : ¬ ((n : Int) ≤ (s.base : Int)) := by omega
    have n0 : decide ((n : Int) ≤ (s.base : Int)) = false := decide_eq_false n1
    have q1 : IntKind.u64.wrap ((n : Int) - (s.base : Int)) = (n : Int) - s.base := IntWalk.u64_in _ (by omega)
    have q2 : IntKind.u64.wrap ((n : Int) - (s.base : Int) - 1) = (n : Int) - s.base - 1 := IntWalk.u64_in _ (by omega)
    have q3 : IntKind.u64.wrap (s.es.length : Int) = s.es.length := IntWalk.u64_in _ (by omega)
    have n2 : (s.es.length : Int) < (n : Int) - s.base - 1 := by omega
    clear hv fin h hD hB hO
    go_enter Tryz.func22, Tryz.ntmps22
    go_wp2_with fail
    go_quiet (fail)
    go_wp2_with fail
    go_ret
    exact FIN.out _

set_option maxRecDepth 100000 in
set_option maxHeartbeats 4000000 in
theorem wcut (h : WalAt w wb db s size E) (hD : Disk w L db d) (hs : s.Ok) (hel : s.es.length ≤ 1000000) (hc : d.count < 1000000) (hl : (fileOf (anewEvs s)).length ≤ 1000000) (hz : -1 ≤ size ∧ size ≤ 1000000) (n : Nat) (hv : (Ev.cut n).May s) :
    Calls Tryz.prog 22 #[.pointer (some ⟨wb, 0, none⟩), .int .u64 (n : Nat)] w (WPost w L E wb db s (s.ev (.cut n)) (d.lays s size (fileOf [.cut n]))) := by
  obtain ⟨R, hR⟩ : ∃ R, R = d.lays s size (fileOf [.cut n]) := ⟨_, rfl⟩
  rw [← hR]
  have hbl : (Ev.cut n).bytes.length ≤ 11 := Ev.bytes_length hs (by omega) hv
  have hbs := hs.base
  have hv2 := hv
  unfold Ev.May Ws.last at hv2
  have hn64 : n < 18446744073709551616 := by omega
  obtain ⟨ao, c, hB, hO, hEe⟩ := h.at_
  have hcB := hB.cell
  have H0 := Lib.hid (And.intro h (And.intro hD (And.intro hbl (And.intro hR hv))))
  have h1 : ¬ (n ≤ s.base) := by omega
  have n1 : ¬ ((n : Int) ≤ (s.base : Int)) := by omega
  have n0 : decide ((n : Int) ≤ (s.base : Int)) = false := decide_eq_false n1
  have q1 : IntKind.u64.wrap ((n : Int) - (s.base : Int)) = (n : Int) - s.base := IntWalk.u64_in _ (by omega)
  have q2 : IntKind.u64.wrap ((n : Int) - (s.base : Int) - 1) = (n : Int) - s.base - 1 := IntWalk.u64_in _ (by omega)
  have q3 : IntKind.u64.wrap (s.es.length : Int) = s.es.length := IntWalk.u64_in _ (by omega)
  have n2 : decide ((s.es.length : Int) < (n : Int) - s.base - 1) = false := decide_eq_false (by omega)
  clear h hD hbl hR hv hv2 hB hO hEe
  have HZ := Lib.hid (And.intro hs (And.intro hel (And.intro hc (And.intro hl (And.intro hz (And.intro hbs hn64))))))
  clear hs hel hc hl hz hbs hn64
  go_enter Tryz.func22, Tryz.ntmps22
  go_wp2_with fail
  go_quiet (fail)
  have hkd := (Keeps.refl [] w).drewN nq
  generalize w.drewN nq = w1 at *
  have hkY := (Keeps.refl [] w1).alloc (.cells #[.int .u64 (n : Nat)] 23)
  have hY := numbers_any 3 (some ⟨w1.heap.size, 0, none⟩) 1 [n] (w1.alloc (.cells #[.int .u64 (n : Nat)] 23)) (one_cell rfl) (by simpa using HZ.out.2.2.2.2.2.2) (by simp)
  have HY := Lib.hid (And.intro hY (hkd.trans hkY))
  clear hkd hkY hY q1 q2 q3 hcB
  obtain ⟨hs, hel, hc, hl, hz, hbs, hn64⟩ := HZ.out
  go_wp2_with fail
  refine HY.out.1.mono ?_
  rintro e w2 ⟨a2, c2, rfl, hO2, hk2⟩
  obtain ⟨h, hD, hbl, hR, hv⟩ := H0.out
  have hby : numB 3 [n] = (Ev.cut n).bytes := by simp [numB, Ev.bytes]
  rw [hby] at hO2 ⊢
  have hkL := (Keeps.refl [] w2).alloc (.cells #[.slice a2 (Ev.cut n).bytes.length c2] 26)
  have hk03 := (HY.out.2.trans hk2).trans hkL
  have h3 := h.keep0 hk03
  have hD3 := hD.keep0 hk03
  have hLy := wlays h3 hD3 hs hc hl hz _ 1 _ (rbs1 hO2) (by intro x hx; simp at hx; subst hx; simp only; omega) (by rw [frs1, fileOf1]; omega)
  rw [frs1, ← hR] at hLy
  have H3 := Lib.hid (And.intro hLy hk03)
  clear h hD hbl hR hv hkL hk03 h3 hD3 hLy hO2 hk2 hby
  go_wp2_with fail
  refine H3.out.1.mono ?_
  rintro e w4 ⟨ev4, L4, rfl, hE4, hD4, hW4, hk4, hL4⟩
  obtain ⟨-, hk03⟩ := H3.out
  have hL04 : ∀ x ∈ L4, x ∈ L ∨ w.heap.size ≤ x := fun x hx => (hL4 x hx).imp id (fun h => Nat.le_trans hk03.size h)
  have hk04 : Keeps (wb :: (L ++ E)) w w4 := keepsWL (hk03.of_nil.trans hk4)
  rcases hE4.form with ⟨hr, rfl⟩ | ⟨ty, u, rfl, hne⟩
  · have hoff4 := wal_off hW4 hD4
    have hCu := wcuts hW4 n H0.out.2.2.2.2.1 H0.out.2.2.2.2.2 hn64 (by omega)
    have H4 := Lib.hid (And.intro hr (And.intro hD4 (And.intro hoff4 (And.intro hL04 (And.intro hk04 hCu)))))
    clear hE4 hr hD4 hW4 hk4 hL4 hk03 hL04 hk04 hoff4 hCu
    go_wp2_with fail
    refine H4.out.2.2.2.2.2.mono ?_
    rintro e w6 ⟨rfl, hW6, hk6⟩
    go_wp2_with fail
    go_ret
    obtain ⟨hr, hD4, hoff4, hL04, hk04, -⟩ := H4.out
    refine ⟨.nilIface, L4, E, rfl, by rw [hr]; rfl, hD4.keep hk6 (fun y hy => by simp; rintro rfl; exact hoff4.1 hy), ?_, hk04.trans (keepsW hk6), hL04, fun _ h => .inl h⟩
    rw [if_pos (by rw [hr]; rfl)]
    exact hW6
  · have HH : WPost w L E wb db s (s.ev (.cut n)) R (.returned (.iface ty u)) w4 := by
      refine ⟨_, L4, E, rfl, hE4, hD4, ?_, hk04, hL04, fun _ h => .inl h⟩
      rw [if_neg (by rw [DRes.isOk_ne hne]; simp)]
      exact hW4
    have HHH := Lib.hid HH
    clear HH hE4 hne hD4 hW4 hk4 hL4 hk03 hL04 hk04
    go_wp2_with fail
    go_ret
    exact HHH.out

set_option maxRecDepth 100000 in
set_option maxHeartbeats 4000000 in
theorem wdrop_bad (h : WalAt w wb db s size E) (hD : Disk w L db d) (i t : Nat) (hv : i < s.base ∨ 4611686018427387904 < i) :
    Calls Tryz.prog 23 #[.pointer (some ⟨wb, 0, none⟩), .int .u64 (i : Nat), .int .u64 (t : Nat)] w (WPost w L E wb db s (s.ev (.drop i t)) (d, size, .bad ptDrop 40)) := by
  obtain ⟨ao, c, hB, hO, rfl⟩ := h.at_
  have hcB := hB.cell
  have FIN := Lib.hid (refused h hD (s.ev (.drop i t)) ptDrop 40 w.heap.size _ ((Keeps.refl [] w).alloc (.cells #[.string ⟨ptDrop.toArray⟩, .iface 75 (.int .i64 40)] 97)) (Blk.fresh w _ _))
  rcases (by omega : i < s.base ∨ (¬ (i < s.base) ∧ 4611686018427387904 < i)) with h1 | ⟨h1, h2⟩
  · have n1 : (i : Int) < (s.base : Int) := by omega
    clear hv h hD hB hO
    go_enter Tryz.func23, Tryz.ntmps23
    go_wp2_with fail
    go_ret
    exact FIN.out
  · have n1 : ¬ ((i : Int) < (s.base : Int)) := by omega
    have n2 : (4611686018427387904 : Int) < (i : Int) := by omega
    clear hv h hD hB hO
    go_enter Tryz.func23, Tryz.ntmps23
    go_wp2_with fail
    go_ret
    exact FIN.out

set_option maxRecDepth 100000 in
set_option maxHeartbeats 4000000 in
theorem wdrop (h : WalAt w wb db s size E) (hD : Disk w L db d) (hs : s.Ok) (hel : s.es.length ≤ 1000000) (hc : d.count < 1000000) (hl : (fileOf (anewEvs s)).length ≤ 1000000) (hz : -1 ≤ size ∧ size ≤ 1000000) (i t : Nat) (hv : (Ev.drop i t).May s) :
    Calls Tryz.prog 23 #[.pointer (some ⟨wb, 0, none⟩), .int .u64 (i : Nat), .int .u64 (t : Nat)] w (WPost w L E wb db s (s.ev (.drop i t)) (d.lays s size (fileOf [.drop i t]))) := by
  obtain ⟨R, hR⟩ : ∃ R, R = d.lays s size (fileOf [.drop i t]) := ⟨_, rfl⟩
  rw [← hR]
  have hbl : (Ev.drop i t).bytes.length ≤ 21 := Ev.bytes_length hs (by omega) hv
  obtain ⟨hv1, hv2, hv3⟩ := hv
  obtain ⟨ao, c, hB, hO, hEe⟩ := h.at_
  have hcB := hB.cell
  have H0 := Lib.hid (And.intro h (And.intro hD (And.intro hbl (And.intro hR hv1))))
  have n1 : ¬ ((i : Int) < (s.base : Int)) := by omega
  have n2 : ¬ ((4611686018427387904 : Int) < (i : Int)) := by omega
  have hkY := (Keeps.refl [] w).alloc (.cells #[.int .u64 (i : Nat), .int .u64 (t : Nat)] 23)
  have hY := numbers2b w.heap.size i t _ (Blk.fresh w 23 #[.int .u64 (i : Nat), .int .u64 (t : Nat)]) (by omega) hv3
  have HY := Lib.hid (And.intro hY hkY)
  clear h hD hbl hR hB hO hEe hkY hY
  go_enter Tryz.func23, Tryz.ntmps23
  go_wp2_with fail
  refine HY.out.1.mono ?_
  rintro e w2 ⟨a2, c2, rfl, hO2, hk2⟩
  obtain ⟨h, hD, hbl, hR, -⟩ := H0.out
  have hby : numB 4 [i, t] = (Ev.drop i t).bytes := by simp [numB, Ev.bytes]
  rw [hby] at hO2 ⊢
  have hkL := (Keeps.refl [] w2).alloc (.cells #[.slice a2 (Ev.drop i t).bytes.length c2] 26)
  have hk03 := (HY.out.2.trans hk2).trans hkL
  have h3 := h.keep0 hk03
  have hD3 := hD.keep0 hk03
  have hLy := wlays h3 hD3 hs hc hl hz _ 1 _ (rbs1 hO2) (by intro x hx; simp at hx; subst hx; simp only; omega) (by rw [frs1, fileOf1]; omega)
  rw [frs1, ← hR] at hLy
  have H3 := Lib.hid (And.intro hLy hk03)
  clear h hD hbl hR hkL hk03 h3 hD3 hLy hO2 hk2 hby hcB
  go_wp2_with fail
  refine H3.out.1.mono ?_
  rintro e w4 ⟨ev4, L4, rfl, hE4, hD4, hW4, hk4, hL4⟩
  obtain ⟨-, hk03⟩ := H3.out
  have hL04 : ∀ x ∈ L4, x ∈ L ∨ w.heap.size ≤ x := fun x hx => (hL4 x hx).imp id (fun h => Nat.le_trans hk03.size h)
  have hk04 : Keeps (wb :: (L ++ E)) w w4 := keepsWL (hk03.of_nil.trans hk4)
  rcases hE4.form with ⟨hr, rfl⟩ | ⟨ty, u, rfl, hne⟩
  · have hoff4 := wal_off hW4 hD4
    have hCu := wdrops hW4 i t hv1 hv2 (by omega)
    have H4 := Lib.hid (And.intro hr (And.intro hD4 (And.intro hoff4 (And.intro hL04 (And.intro hk04 hCu)))))
    clear hE4 hr hD4 hW4 hk4 hL4 hk03 hL04 hk04 hoff4 hCu
    go_wp2_with fail
    refine H4.out.2.2.2.2.2.mono ?_
    rintro e w6 ⟨rfl, E6, hW6, hE6, hk6⟩
    go_wp2_with fail
    go_ret
    obtain ⟨hr, hD4, hoff4, hL04, hk04, -⟩ := H4.out
    refine ⟨.nilIface, L4, E6, rfl, by rw [hr]; rfl, hD4.keep hk6 (fun y hy => by simp; rintro rfl; exact hoff4.1 hy), ?_, hk04.trans (keepsW hk6), hL04, fun y hy => .inl (hE6 y hy)⟩
    rw [if_pos (by rw [hr]; rfl)]
    exact hW6
  · have HH : WPost w L E wb db s (s.ev (.drop i t)) R (.returned (.iface ty u)) w4 := by
      refine ⟨_, L4, E, rfl, hE4, hD4, ?_, hk04, hL04, fun _ h => .inl h⟩
      rw [if_neg (by rw [DRes.isOk_ne hne]; simp)]
      exact hW4
    have HHH := Lib.hid HH
    clear HH hE4 hne hD4 hW4 hk4 hL4 hk03 hL04 hk04
    go_wp2_with fail
    go_ret
    exact HHH.out

/-- Sync -/
theorem wsync (h : WalAt w wb db s size E) (hD : Disk w L db d) (hc : d.count < 1000000) (hz : 0 ≤ size) :
    Calls Tryz.prog 14 #[.pointer (some ⟨wb, 0, none⟩)] w (WPost w L E wb db s s ((d.sync nmWal).1, size, (d.sync nmWal).2)) := by
  have hoff := wal_off h hD
  obtain ⟨hc0, hc6, hf6⟩ := h.cells
  have HS := Lib.hid (And.intro (dsync hD nmWal (by omega)) (And.intro h hoff))
  clear h hD hoff
  go_enter Tryz.func14, Tryz.ntmps14
  go_wp2_with fail
  refine HS.out.1.mono ?_
  rintro e w2 ⟨ev, L2, rfl, hE, hD2, hk2, hL2⟩
  obtain ⟨-, h, hoff⟩ := HS.out
  have HH : WPost w L E wb db s s ((d.sync nmWal).1, size, (d.sync nmWal).2) (.returned ev) w2 :=
    ⟨ev, L2, E, rfl, hE, hD2, by simpa using h.keep hk2 hoff.1 hoff.2, hk2.mono (fun x hx => .tail _ (List.mem_append.2 (.inl hx))), hL2, fun _ h => .inl h⟩
  have HHH := Lib.hid HH
  clear HH hE hD2 hk2 hL2 h hoff hc0 hc6 hf6
  go_wp2_with fail
  go_ret
  exact HHH.out
theorem wsync0 (h : WalAt w wb db s size E) (hD : Disk w L db d) (ho : d.off = false) (hm : mget nmWal d.fs = none) (hz : size < 0) :
    Calls Tryz.prog 14 #[.pointer (some ⟨wb, 0, none⟩)] w (WPost w L E wb db s s (d, size, .ok)) := by
  obtain ⟨hc0, hc6, hf6⟩ := h.cells
  have hR := dread hD nmWal
  rw [show d.read nmWal = ([], .bad nmWal 30) by simp [DSt.read, ho, hm]] at hR
  have HS := Lib.hid (And.intro hR (And.intro h hD))
  have n1 : ¬ (0 ≤ size) := by omega
  clear h hD hR
  go_enter Tryz.func14, Tryz.ntmps14
  go_wp2_with fail
  refine HS.out.1.mono ?_
  rintro e w2 ⟨bo, bc, ev, rfl, hE, hO, hk2⟩
  have hI := is_de hE 30 (by decide)
  rw [show decide ((DRes.bad nmWal 30).cls = 30) = true from rfl] at hI
  clear hE hO
  go_wp2_with fail
  refine hI.mono ?_
  rintro e w3 ⟨rfl, hw⟩
  obtain rfl := hw
  clear hI
  go_wp2_with fail
  go_ret
  obtain ⟨-, h, hD⟩ := HS.out
  exact ⟨.nilIface, L, E, rfl, rfl, hD.keep0 hk2, by simpa using h.keep0 hk2, hk2.of_nil, fun _ h => .inl h, fun _ h => .inl h⟩
end
end Go.Proofs.YtfgmbjdeimallaaGreatDoor
/- The wal: Append. -/

namespace Go.Proofs.YtfgmbjdeimallaaGreatDoor
open Go.RowKit Go.Lib

section
variable {w : World} {wb db : Nat} {s : Ws} {size : Int} {E L : List Nat} {d : DSt}
def AbPost (w : World) (e : Ending) (w' : World) : Prop := ∃ ev, e = .returned ev ∧ ErrP w' ev 20 ∧ Keeps [] w w'
/-- what a round of Append's first loop has laid -/
def ApRel (w wr : World) (l : List Ent) (j : Nat) (a : Option Addr) (cc : Nat) (ls : List Bsl) : Prop :=
  ls.map (·.l) = (l.take j).map (fun x => (Ev.ent x).bytes) ∧ BsOwn wr w.heap.size a cc ls ∧ Keeps [] w wr ∧ ∀ x ∈ l.take j, entOk x = true

set_option maxRecDepth 100000 in
set_option maxHeartbeats 8000000 in
theorem wappend_bad (la : Option Addr) (lc : Nat) (l : List Ent) (hR : Re w la lc l) (hn : ∀ x ∈ l, x.term < 18446744073709551616 ∧ x.client < 18446744073709551616 ∧ x.seq < 18446744073709551616) (hll : l.length ≤ 1000000) (hbad : ∃ x ∈ l, entOk x = false) :
    Calls Tryz.prog 11 #[.pointer (some ⟨wb, 0, none⟩), .slice la l.length lc] w (AbPost w) := by
  obtain ⟨iB, zB, hiB, hzB, hsB, hbB, hcB⟩ := infoBS
  have H0 := Lib.hid (And.intro hR (And.intro hn hbad))
  clear hR hn hbad
  go_enter Tryz.func11, Tryz.ntmps11
  go_wp2_with fail
  go_loopw [5, 13] (fun v i wr => ∃ (j : Nat) (a : Option Addr) (cc : Nat) (ls : List Bsl), v = .slice a ls.length cc ∧ i = .int .i64 (j : Int) ∧ j ≤ l.length ∧ ApRel w wr l j a cc ls) (fun _ i _ => l.length - (intOf i).toNat)
  case atStart => exact ⟨0, none, 0, [], rfl, rfl, Nat.zero_le _, rfl, ⟨World.ownsRow_nil _ _ _ _, by simp⟩, Keeps.refl _ _, by simp⟩
  case round =>
    obtain ⟨j, a, cc, ls, rfl, rfl, hj, hlm, hBs, hk, hoks⟩ := hrel
    have hlen : ls.length = j := by
      have := congrArg List.length hlm
      simp only [List.length_map, List.length_take] at this
      omega
    have hjl : j < l.length := by
      rcases (by omega : j < l.length ∨ j = l.length) with h | h
      · exact h
      · obtain ⟨x, hx, hxb⟩ := H0.out.2.2
        rw [h, List.take_length] at hoks
        rw [hoks x hx] at hxb
        cases hxb
    have n1 : (j : Int) < (l.length : Int) := by omega
    have s1 : IntKind.i64.wrap ((j : Int) + 1) = j + 1 := IntWalk.i64_in _ (by omega)
    have hv := List.getElem?_eq_getElem hjl
    have hmem := List.getElem_mem hjl
    generalize l[j] = x at hv hmem
    obtain ⟨hx1, hx2, hx3⟩ := H0.out.2.1 x hmem
    have hSl := H0.out.1.keep0 hk
    obtain ⟨eb, eo, rfl⟩ := hSl.at (by have := hSl.cap; omega)
    have HRUN := Lib.hid (ent_run hSl hv)
    have hX := Blk.fresh wr 65 x.cells
    have hkX := (Keeps.refl [] wr).alloc (.cells x.cells 65)
    have hEb := entryBytes_any x (wr.alloc (.cells x.cells 65)) hx1 hx2 hx3
    have hb1 : ls.length ≤ 1000002 := by omega
    have HX := Lib.hid (And.intro hEb (And.intro hv (And.intro hoks (And.intro hkX (And.intro hBs (And.intro hlm (And.intro hk hlen)))))))
    clear hSl hEb hv hkX hBs hlm hk hmem hlen hoks hx1 hx2 hx3
    go_wp2_with (first
      | (refine wpList_load_run rfl _ _ rfl eb (eo + j * 5) rfl x.cells.toList HRUN.out _ Tryz.underlying65 rfl Tryz.sizeE ?_)
      | (refine wpList_store_fresh rfl rfl _ _ _ rfl _ rfl rfl _ rfl _ _ Tryz.sizeE (by simp) rfl ?_)
      | (refine wpList_load_agg rfl _ _ rfl wr.heap.size 0 5 rfl 65 _ _ hX Tryz.underlying65 rfl Tryz.sizeE (by simp) _ rfl ?_))
    refine HX.out.1.mono ?_
    rintro e w5 ⟨a5, c5, ev5, B5, rfl, hB5, hO5, hE5, hk5⟩
    cases hok : entOk x with
    | false =>
      rw [hok, if_neg (by simp)] at hE5
      have hEE := hE5
      rcases hE5 with ⟨_, h0⟩ | ⟨_, g5, p5, rfl, hG5⟩
      · exact absurd h0 (by decide)
      have hk05 := (HX.out.2.2.2.2.2.2.1.trans HX.out.2.2.2.1).trans hk5
      have hkP := (Keeps.refl [] w5).alloc (.cells #[.int .i64 (j : Int), .iface 95 (.pointer (some ⟨g5, 0, none⟩))] 91)
      have FIN : Hid (AbPost w (.returned (.iface 89 (.pointer (some ⟨w5.heap.size, 0, none⟩)))) (w5.alloc (.cells #[.int .i64 (j : Int), .iface 95 (.pointer (some ⟨g5, 0, none⟩))] 91))) :=
        Lib.hid ⟨_, rfl, .placed rfl (Blk.fresh w5 91 #[.int .i64 (j : Int), .iface 95 (.pointer (some ⟨g5, 0, none⟩))]) (hEE.keep hkP) (by decide), hk05.trans hkP⟩
      clear hEE hG5 hk05 hkP hB5 hO5 hk5 hok hX
      go_wp2_with fail
      go_ret
      exact FIN.out
    | true =>
      rw [hok, if_pos rfl] at hE5
      obtain rfl := hE5.zero.2 rfl
      obtain rfl := hB5 hok
      have HOK := Lib.hid hok
      have hkM := (Keeps.refl [] w5).alloc (.cells #[.slice a5 (Ev.ent x).bytes.length c5] 26)
      have hBs6 := ((HX.out.2.2.2.2.1.keep0 HX.out.2.2.2.1).keep0 hk5).keep0 hkM
      have hS6 := one_cell (w := w5) (v := .slice a5 (Ev.ent x).bytes.length c5) (t := 26) rfl
      have hk16x := ((HX.out.2.2.2.2.2.2.1.trans HX.out.2.2.2.1).trans hk5).trans hkM
      have hR6 := (hO5.keep0 hkM).older (N' := w.heap.size) (HX.out.2.2.2.2.2.2.1.trans HX.out.2.2.2.1).size
      have hlt6 := ownsRow_lt hBs6.own
      have H6 := Lib.hid (And.intro hBs6 (And.intro hk16x (And.intro hR6 hk5)))
      clear hE5 hO5 hB5 hkM hk5 hk16x hR6 hX hok
      go_wp2_with (at_builtin; refine wpList_append_by _ rfl _ _ 87 87 rfl w.heap.size 26 iB zB 1 24 Tryz.underlying87 hiB hzB hsB hbB hcB a _ cc _ rfl H6.out.1.own _ rfl 1 _ (hS6.src Tryz.underlying87) (by unfold maxLen; omega) (by omega) H6.out.2.1.size ?_; intro a7 c7 w7 hO7 hk7 hb7)
      obtain ⟨hBs6, hk16x, hR6, -⟩ := H6.out
      have hO8 := BsOwn.grow (x := ⟨a5, c5, (Ev.ent x).bytes⟩) hO7 rfl (fun y hy => (hBs6.each y hy).keep hk7 (ownsRow_apart (hBs6.each y hy) hBs6.own (by decide))) (hR6.keep hk7 (ownsRow_apart hR6 hBs6.own (by decide)))
      have hk17 : Keeps [] w w7 := hk16x.step hk7 (fun y hy => .inr (hlt6 y hy).1)
      have HO8 := Lib.hid (And.intro hO8 hk17)
      clear hBs6 hk16x hR6 hO8 hk17 hO7 hk7 hlt6 hb7
      go_roundw
      case rel =>
        obtain ⟨-, hv, hoks, -, -, hlm, -, -⟩ := HX.out
        have htk : l.take (j + 1) = l.take j ++ [x] := by
          obtain ⟨h1, h2⟩ := List.getElem?_eq_some_iff.1 hv
          rw [List.take_add_one, List.getElem?_eq_getElem h1, h2]
          rfl
        refine ⟨j + 1, a7, c7, ls ++ [⟨a5, c5, (Ev.ent x).bytes⟩], by simp, by simp, by omega, ?_, HO8.out.1, HO8.out.2, fun y hy => ?_⟩
        · rw [List.map_append, hlm, htk, List.map_append]
          rfl
        · rw [htk] at hy
          rcases List.mem_append.1 hy with hy | hy
          · exact hoks y hy
          · simp at hy
            subst hy
            exact HOK.out
      case measure => simp [intOf]; omega

theorem frs_ents {ls : List Bsl} {l : List Ent} (h : ls.map (·.l) = l.map (fun x => (Ev.ent x).bytes)) : frs ls = fileOf (l.map .ent) := frs_file (evs := l.map .ent) (by rw [h, List.map_map]; rfl)

set_option maxRecDepth 100000 in
set_option maxHeartbeats 8000000 in
theorem wappend (h : WalAt w wb db s size E) (hD : Disk w L db d) (hs : s.Ok) (hel : s.es.length ≤ 1000000) (hc : d.count < 1000000) (hl : (fileOf (anewEvs s)).length ≤ 1000000) (hz : -1 ≤ size ∧ size ≤ 1000000) (la : Option Addr) (lc : Nat) (l : List Ent) (hR : Re w la lc l) (hm : ∀ x ∈ l, x.May) (hll : l.length ≤ 1000000) (htot : (fileOf (l.map .ent)).length ≤ 1000000) (hlo : ∀ ad, la = some ad → l ≠ [] → ad.block ∉ wb :: (L ++ E)) :
    Calls Tryz.prog 11 #[.pointer (some ⟨wb, 0, none⟩), .slice la l.length lc] w (WPost w L E wb db s (s.plays (l.map .ent)) (d.lays s size (fileOf (l.map .ent)))) := by
  obtain ⟨iB, zB, hiB, hzB, hsB, hbB, hcB⟩ := infoBS
  obtain ⟨i, z, hi, hz', hsz, hby, hzc⟩ := infoEn
  obtain ⟨R, hRR⟩ : ∃ R, R = d.lays s size (fileOf (l.map .ent)) := ⟨_, rfl⟩
  rw [← hRR]
  have H0 := Lib.hid (And.intro hR (And.intro hm (And.intro h (And.intro hD (And.intro hRR hlo)))))
  have HZ := Lib.hid (And.intro hs (And.intro hel (And.intro hc (And.intro hl (And.intro hz htot)))))
  clear hR hm h hD hRR hlo hs hel hc hl hz htot
  go_enter Tryz.func11, Tryz.ntmps11
  go_wp2_with fail
  go_loopw [5, 13] (fun v i wr => ∃ (j : Nat) (a : Option Addr) (cc : Nat) (ls : List Bsl), v = .slice a ls.length cc ∧ i = .int .i64 (j : Int) ∧ j ≤ l.length ∧ ApRel w wr l j a cc ls) (fun _ i _ => l.length - (intOf i).toNat)
  case atStart => exact ⟨0, none, 0, [], rfl, rfl, Nat.zero_le _, rfl, ⟨World.ownsRow_nil _ _ _ _, by simp⟩, Keeps.refl _ _, by simp⟩
  case round =>
    obtain ⟨j, a, cc, ls, rfl, rfl, hj, hlm, hBs, hk, hoks⟩ := hrel
    have hlen : ls.length = j := by
      have := congrArg List.length hlm
      simp only [List.length_map, List.length_take] at this
      omega
    rcases (by omega : j < l.length ∨ j = l.length) with hjl | rfl
    · have n1 : (j : Int) < (l.length : Int) := by omega
      have s1 : IntKind.i64.wrap ((j : Int) + 1) = j + 1 := IntWalk.i64_in _ (by omega)
      have hv := List.getElem?_eq_getElem hjl
      have hmem := List.getElem_mem hjl
      generalize l[j] = x at hv hmem
      obtain ⟨hok, hx1, hx2, hx3⟩ := H0.out.2.1 x hmem
      have hSl := H0.out.1.keep0 hk
      obtain ⟨eb, eo, rfl⟩ := hSl.at (by have := hSl.cap; omega)
      have HRUN := Lib.hid (ent_run hSl hv)
      have hX := Blk.fresh wr 65 x.cells
      have hkX := (Keeps.refl [] wr).alloc (.cells x.cells 65)
      have hEb := entryBytes_any x (wr.alloc (.cells x.cells 65)) hx1 hx2 hx3
      have hb1 : ls.length ≤ 1000002 := by omega
      have HX := Lib.hid (And.intro hEb (And.intro hv (And.intro hoks (And.intro hkX (And.intro hBs (And.intro hlm (And.intro hk hlen)))))))
      have HOK := Lib.hid hok
      clear hSl hEb hv hkX hBs hlm hk hmem hlen hoks hx1 hx2 hx3 hok
      go_wp2_with (first
        | (refine wpList_load_run rfl _ _ rfl eb (eo + j * 5) rfl x.cells.toList HRUN.out _ Tryz.underlying65 rfl Tryz.sizeE ?_)
        | (refine wpList_store_fresh rfl rfl _ _ _ rfl _ rfl rfl _ rfl _ _ Tryz.sizeE (by simp) rfl ?_)
        | (refine wpList_load_agg rfl _ _ rfl wr.heap.size 0 5 rfl 65 _ _ hX Tryz.underlying65 rfl Tryz.sizeE (by simp) _ rfl ?_))
      refine HX.out.1.mono ?_
      rintro e w5 ⟨a5, c5, ev5, B5, rfl, hB5, hO5, hE5, hk5⟩
      rw [HOK.out, if_pos rfl] at hE5
      obtain rfl := hE5.zero.2 rfl
      obtain rfl := hB5 HOK.out
      have hkM := (Keeps.refl [] w5).alloc (.cells #[.slice a5 (Ev.ent x).bytes.length c5] 26)
      have hBs6 := ((HX.out.2.2.2.2.1.keep0 HX.out.2.2.2.1).keep0 hk5).keep0 hkM
      have hS6 := one_cell (w := w5) (v := .slice a5 (Ev.ent x).bytes.length c5) (t := 26) rfl
      have hk16x := ((HX.out.2.2.2.2.2.2.1.trans HX.out.2.2.2.1).trans hk5).trans hkM
      have hR6 := (hO5.keep0 hkM).older (N' := w.heap.size) (HX.out.2.2.2.2.2.2.1.trans HX.out.2.2.2.1).size
      have hlt6 := ownsRow_lt hBs6.own
      have H6 := Lib.hid (And.intro hBs6 (And.intro hk16x (And.intro hR6 hk5)))
      clear hE5 hO5 hB5 hkM hk5 hk16x hR6 hX
      go_wp2_with (at_builtin; refine wpList_append_by _ rfl _ _ 87 87 rfl w.heap.size 26 iB zB 1 24 Tryz.underlying87 hiB hzB hsB hbB hcB a _ cc _ rfl H6.out.1.own _ rfl 1 _ (hS6.src Tryz.underlying87) (by unfold maxLen; omega) (by omega) H6.out.2.1.size ?_; intro a7 c7 w7 hO7 hk7 hb7)
      obtain ⟨hBs6, hk16x, hR6, -⟩ := H6.out
      have hO8 := BsOwn.grow (x := ⟨a5, c5, (Ev.ent x).bytes⟩) hO7 rfl (fun y hy => (hBs6.each y hy).keep hk7 (ownsRow_apart (hBs6.each y hy) hBs6.own (by decide))) (hR6.keep hk7 (ownsRow_apart hR6 hBs6.own (by decide)))
      have hk17 : Keeps [] w w7 := hk16x.step hk7 (fun y hy => .inr (hlt6 y hy).1)
      have HO8 := Lib.hid (And.intro hO8 hk17)
      clear hBs6 hk16x hR6 hO8 hk17 hO7 hk7 hlt6 hb7
      go_roundw
      case rel =>
        obtain ⟨-, hv, hoks, -, -, hlm, -, -⟩ := HX.out
        have htk : l.take (j + 1) = l.take j ++ [x] := by
          obtain ⟨h1, h2⟩ := List.getElem?_eq_some_iff.1 hv
          rw [List.take_add_one, List.getElem?_eq_getElem h1, h2]
          rfl
        refine ⟨j + 1, a7, c7, ls ++ [⟨a5, c5, (Ev.ent x).bytes⟩], by simp, by simp, by omega, ?_, HO8.out.1, HO8.out.2, fun y hy => ?_⟩
        · rw [List.map_append, hlm, htk, List.map_append]
          rfl
        · rw [htk] at hy
          rcases List.mem_append.1 hy with hy | hy
          · exact hoks y hy
          · simp at hy
            subst hy
            exact HOK.out
      case measure => simp [intOf]; omega
    · rw [List.take_length] at hlm
      have n1 : ¬ ((l.length : Int) < (l.length : Int)) := by omega
      have hfr := frs_ents hlm
      obtain ⟨hR, hm, h, hD, hRR, hlo⟩ := H0.out
      obtain ⟨hs, hel, hc, hl, hz, htot⟩ := HZ.out
      have hW1 := h.keep0 hk
      have hD1 := hD.keep0 hk
      have hsm : ∀ x ∈ ls, x.l.length ≤ 262144 := fun x hx => by
        have h1 : x.l ∈ l.map (fun x => (Ev.ent x).bytes) := by rw [← hlm]; exact List.mem_map.2 ⟨x, hx, rfl⟩
        obtain ⟨y, hy, h2⟩ := List.mem_map.1 h1
        have := Ev.bytes_length (s := Ws.nil) Ws.Ok.nil (by simp) (e := .ent y) (hm y hy)
        simp only at this
        rw [← h2]
        omega
      have hLy := wlays hW1 hD1 hs hc hl hz a cc ls hBs.rbs hsm (by rw [hfr]; exact htot)
      rw [hfr, ← hRR] at hLy
      have H3 := Lib.hid (And.intro hLy hk)
      clear hR hm h hD hRR hlo hs hel hc hl hz htot hW1 hD1 hsm hLy hlm hBs hk hoks hlen hfr
      go_wp2_with fail
      refine H3.out.1.mono ?_
      rintro e w4 ⟨ev4, L4, rfl, hE4, hD4, hW4, hk4, hL4⟩
      obtain ⟨-, hk03⟩ := H3.out
      have hL04 : ∀ x ∈ L4, x ∈ L ∨ w.heap.size ≤ x := fun x hx => (hL4 x hx).imp id (fun h => Nat.le_trans hk03.size h)
      have hk04 : Keeps (wb :: L) w w4 := hk03.of_nil.trans hk4
      rcases hE4.form with ⟨hr, rfl⟩ | ⟨ty, u, rfl, hne⟩
      · have hoff4 := wal_off hW4 hD4
        have hR4 : Re w4 la lc l := H0.out.1.keep hk04 (fun ad e hne hx => H0.out.2.2.2.2.2 ad e (by rintro rfl; simp [ents] at hne) (by
          rcases List.mem_cons.1 hx with h | h
          · rw [h]; exact .head _
          · exact .tail _ (List.mem_append.2 (.inl h))))
        obtain ⟨ao, c, hB4, hO4, hEe⟩ := hW4.at_
        have hlw := hB4.lt
        have hwE : wb ∉ blks ao := hO4.off hB4 (by decide)
        have hcp := hO4.cap
        have hel4 := HZ.out.2.1
        have hR0 : ∀ W : World, Keeps (blks ao) w4 W → ∀ q ∈ [((4 : Nat), fun w0 : World => w0.cell? ⟨wb, 5, none⟩ = some (.slice ao s.es.length c)), ((8 : Nat), fun w0 : World => w0.cell? ⟨wb, 5, none⟩ = some (.slice ao s.es.length c)), ((13 : Nat), fun w0 : World => w0.cell? ⟨wb, 5, none⟩ = some (.slice ao s.es.length c))], q.2 W := by
          intro W hW q hq
          have h5 := (hB4.keep hW hwE).cell 5
          simp only [List.mem_cons, List.not_mem_nil, or_false] at hq
          rcases hq with rfl | rfl | rfl <;> simpa using h5
        have HR0 := Lib.hid hR0
        have hkd := (Keeps.refl (blks ao) w4).drew
        have hSw := HR0.out _ hkd
        have hBd := hB4.drew
        have hOd := (hO4.keep0 ((Keeps.refl [] w4).drew)).take (k := s.es.length) (c' := s.es.length) (Nat.le_refl _) (Nat.le_refl _) hcp
        rw [ents_take, List.take_length] at hOd
        have hRd := hR4.keep0 ((Keeps.refl [] w4).drew)
        have H4 := Lib.hid (And.intro hr (And.intro hD4 (And.intro hoff4 (And.intro hL04 (And.intro hk04 hEe)))))
        have m1 : (s.es.length : Int) ≤ (c : Int) := by omega
        have m2 : (0 : Int) ≤ (s.es.length : Int) := by omega
        clear hE4 hr hD4 hW4 hk4 hL4 hk03 hL04 hk04 hoff4 hEe hR0 hB4 hO4 hR4
        go_upto_region 13 with (fail)
        refine startU [((4 : Nat), fun w0 : World => w0.cell? ⟨wb, 5, none⟩ = some (.slice ao s.es.length c)), ((8 : Nat), fun w0 : World => w0.cell? ⟨wb, 5, none⟩ = some (.slice ao s.es.length c)), ((13 : Nat), fun w0 : World => w0.cell? ⟨wb, 5, none⟩ = some (.slice ao s.es.length c))] (by kernel_rfl) ?_
        generalize World.drew w4 = w5 at *
        refine takeU (i := 0) (v := ?_) rfl (by kernel_rfl) (fun _ _ _ h => h) (Or.inl ⟨by rfl, fun w0 hw0 => ?_⟩) (fun p hp _ => hSw p hp) ?_
        rotate_left
        · simp [Reads] at hw0
          go_simp
          try with_reducible rfl
        try go_simp
        refine takeU (i := 1) (v := ?_) rfl (by kernel_rfl) (fun _ _ _ h => h) (Or.inl ⟨by rfl, fun w0 hw0 => ?_⟩) (fun p hp _ => hSw p hp) ?_
        rotate_left
        · simp [Reads] at hw0
          go_simp
          try with_reducible rfl
        try go_simp
        refine takeU (i := 2) (v := ?_) rfl (by kernel_rfl) (fun _ _ _ h => h) (Or.inl ⟨by rfl, fun w0 hw0 => ?_⟩) (fun p hp _ => hSw p hp) ?_
        rotate_left
        · simp [Reads] at hw0
          go_simp
          try with_reducible rfl
        try go_simp
        refine takeU (i := 3) (v := ?_) rfl (by kernel_rfl) (fun _ _ _ h => h) (Or.inl ⟨by rfl, fun w0 hw0 => ?_⟩) (fun p hp _ => hSw p hp) ?_
        rotate_left
        · simp [Reads] at hw0
          go_simp
          try with_reducible rfl
        try go_simp
        refine takeU (i := 4) (v := ?_) rfl (by kernel_rfl) (fun _ _ _ h => h) (Or.inl ⟨by rfl, fun w0 hw0 => ?_⟩) (fun p hp _ => hSw p hp) ?_
        rotate_left
        · simp [Reads] at hw0
          go_simp
          try with_reducible rfl
        try go_simp
        refine takeU (i := 5) (v := ?_) rfl (by kernel_rfl) (fun _ _ _ h => h) (Or.inl ⟨by rfl, fun w0 hw0 => ?_⟩) (fun p hp _ => hSw p hp) ?_
        rotate_left
        · simp [Reads] at hw0
          go_simp
          try with_reducible rfl
        try go_simp
        refine takeU (i := 6) (v := ?_) rfl (by kernel_rfl) (fun _ _ _ h => h) (Or.inl ⟨by rfl, fun w0 hw0 => ?_⟩) (fun p hp _ => hSw p hp) ?_
        rotate_left
        · simp [Reads] at hw0
          go_simp
          try with_reducible rfl
        try go_simp
        refine takeU (i := 7) (v := ?_) rfl (by kernel_rfl) (fun _ _ _ h => h) (Or.inl ⟨by rfl, fun w0 hw0 => ?_⟩) (fun p hp _ => hSw p hp) ?_
        rotate_left
        · simp [Reads] at hw0
          go_simp
          try with_reducible rfl
        try go_simp
        refine takeU (i := 8) (v := ?_) rfl (by kernel_rfl) (fun _ _ _ h => h) (Or.inl ⟨by rfl, fun w0 hw0 => ?_⟩) (fun p hp _ => hSw p hp) ?_
        rotate_left
        · simp [Reads] at hw0
          go_simp
          try with_reducible rfl
        try go_simp
        refine takeU (i := 9) (v := ?_) rfl (by kernel_rfl) (fun _ _ _ h => h) (Or.inl ⟨by rfl, fun w0 hw0 => ?_⟩) (fun p hp _ => hSw p hp) ?_
        rotate_left
        · simp [Reads] at hw0
          go_simp
          try with_reducible rfl
        try go_simp
        refine takeU (i := 10) (v := ?_) rfl (by kernel_rfl) (fun _ _ _ h => h) (Or.inl ⟨by rfl, fun w0 hw0 => ?_⟩) (fun p hp _ => hSw p hp) ?_
        rotate_left
        · simp [Reads] at hw0
          go_simp
          try with_reducible rfl
        try go_simp
        refine takeU (i := 11) (v := ?_) rfl (by kernel_rfl) (fun _ _ _ h => h) (Or.inl ⟨by rfl, fun w0 hw0 => ?_⟩) (fun p hp _ => hSw p hp) ?_
        rotate_left
        · simp [Reads] at hw0
          go_simp
          try with_reducible rfl
        try go_simp
        refine takeU (i := 12) (v := ?_) rfl (by kernel_rfl) (fun _ _ _ h => h) (Or.inl ⟨by rfl, fun w0 hw0 => ?_⟩) (fun p hp _ => hSw p hp) ?_
        rotate_left
        · simp [Reads] at hw0
          go_simp
          try with_reducible rfl
        try go_simp
        refine takeU (i := 13) (v := ?_) rfl (by kernel_rfl) (fun _ _ _ h => h) (Or.inl ⟨by rfl, fun w0 hw0 => ?_⟩) (fun p hp _ => hSw p hp) ?_
        rotate_left
        · simp [Reads] at hw0
          go_simp
          try with_reducible rfl
        try go_simp
        refine takeU (i := 14) (v := ?_) rfl (by kernel_rfl) (fun _ _ _ h => h) (Or.inl ⟨by rfl, fun w0 hw0 => ?_⟩) (fun p hp _ => hSw p hp) ?_
        rotate_left
        · simp [Reads] at hw0
          go_simp
          try with_reducible rfl
        try go_simp
        refine takeU (i := 15) (v := ?_) rfl (by kernel_rfl) (fun _ _ _ h => h) (Or.inl ⟨by rfl, fun w0 hw0 => ?_⟩) (fun p hp _ => hSw p hp) ?_
        rotate_left
        · simp [Reads] at hw0
          go_simp
          try with_reducible rfl
        try go_simp
        refine takeU (i := 16) (v := ?_) rfl (by kernel_rfl) (fun _ _ _ h => h) (Or.inl ⟨by rfl, fun w0 hw0 => ?_⟩) (fun p hp _ => hSw p hp) ?_
        rotate_left
        · simp [Reads] at hw0
          go_simp
          try with_reducible rfl
        try go_simp
        clear hSw
        refine oneU (i := 17) rfl (by kernel_rfl) (fun K hK => ?_)
        refine step_append_bo rfl _ _ 22 22 rfl 65 i z 5 48 Tryz.underlying22 hi hz' hsz hby hzc ao _ s.es.length _ rfl hOd _ rfl l.length _ (hRd.src Tryz.underlying22) (by unfold maxLen; omega) (by omega) ?_
        intro a6 c6 w6 hO6 hk6 hb6 h06
        have hB6 := hBd.keep hk6 hwE
        have hkd3 := hkd.trans hk6
        refine hK _ _ (fun q hq _ _ => HR0.out _ hkd3 q hq) ?_
        have HBB := Lib.hid (And.intro hB6 (And.intro hO6 (And.intro hkd3 hb6)))
        have HS5 := Lib.hid hkd.size
        have hSw := HR0.out _ hkd3
        clear hK K hBd hOd hkd hkd3 hk6 hb6 h06 hRd hO6
        try go_simp
        refine takeU (i := 18) (v := ?_) rfl (by kernel_rfl) (fun _ _ _ h => h) (Or.inl ⟨by rfl, fun w0 hw0 => ?_⟩) (fun p hp _ => hSw p hp) ?_
        rotate_left
        · simp [Reads] at hw0
          go_simp
          try with_reducible rfl
        try go_simp
        refine takeU (i := 19) (v := ?_) rfl (by kernel_rfl) (fun _ _ _ h => h) (Or.inl ⟨by rfl, fun w0 hw0 => ?_⟩) (fun p hp _ => hSw p hp) ?_
        rotate_left
        · simp [Reads] at hw0
          go_simp
          try with_reducible rfl
        try go_simp
        have hfB := hB6.free
        have hcB := hB6.cell
        have hlB := hB6.lt
        clear hB6 hSw
        refine oneU (i := 20) rfl (by kernel_rfl) (fun K hK => ?_)
        go_simp
        refine hK _ _ (fun p hp h1 _ => by simp only [List.mem_cons, List.not_mem_nil, or_false] at hp; rcases hp with rfl | rfl | rfl <;> exact waits_absurd h1 (by kernel_rfl)) ?_
        clear hK K
        refine doneU (by kernel_rfl) ?_
        go_wp2_with fail
        go_ret
        obtain ⟨hB6, hO6, hk7, hb6⟩ := HBB.out
        obtain ⟨hr, hD4, hoff4, hL04, hk04, hEe⟩ := H4.out
        have hks := (Keeps.refl [wb] w6).set (p := ⟨wb, 5, none⟩) (.inl (by simp)) (.slice a6 (s.es.length + l.length) c6)
        have hes : (s.plays (l.map .ent)) = { s with es := s.es ++ l } := plays_ents l s
        refine ⟨.nilIface, L4, blks a6, rfl, by rw [hr]; rfl, (hD4.keep hk7 (fun y hy hy2 => hoff4.2 y (by rw [hEe]; exact hy2) hy)).keep hks (fun y hy => by simp; rintro rfl; exact hoff4.1 hy), ?_, ?_, hL04, fun y hy => (hb6 y hy).imp (fun h => by rw [hEe]; exact h) (fun h => by have := hk04.size; have := HS5.out; omega)⟩
        · rw [if_pos (by rw [hr]; rfl), hes]
          refine ⟨a6, c6, (hB6.put 5 (.slice a6 (s.es.length + l.length) c6)).eq (by simp [walCells]), ?_, rfl⟩
          have e2 : (s.es ++ l).length = s.es.length + l.length := by simp
          have e3 : ents (s.es ++ l) = ents s.es ++ ents l := ents_append _ _
          show OwnO _ _ 5 a6 (s.es ++ l).length c6 (ents (s.es ++ l))
          rw [e2, e3]
          exact hO6.keep hks (fun y hy => by simp; rintro rfl; exact (hO6.off hB6 (by decide)) hy)
        · refine ((keepsWL hk04).trans (hk7.mono (fun y hy => ?_))).trans (keepsW hks)
          exact .tail _ (List.mem_append.2 (.inr (by rw [hEe]; exact hy)))
      · have HH : WPost w L E wb db s (s.plays (l.map .ent)) R (.returned (.iface ty u)) w4 := by
          refine ⟨_, L4, E, rfl, hE4, hD4, ?_, keepsWL hk04, hL04, fun _ h => .inl h⟩
          rw [if_neg (by rw [DRes.isOk_ne hne]; simp)]
          exact hW4
        have HHH := Lib.hid HH
        clear HH hE4 hne hD4 hW4 hk4 hL4 hk03 hL04 hk04
        go_wp2_with fail
        go_ret
        exact HHH.out
end
end Go.Proofs.YtfgmbjdeimallaaGreatDoor
