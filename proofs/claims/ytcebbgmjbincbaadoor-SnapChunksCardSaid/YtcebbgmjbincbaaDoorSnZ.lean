/- Snapshots: the builder. -/
import Derived.Test.YtcebbgmjbincbaaDoorSn8
import Derived.Test.YtcebbgmjbincbaaDoorErr8
import Derived.Test.YtcebbgmjbincbaaDoorSn9

namespace Go.Proofs.YtcebbgmjbincbaaDoor
open Go.RowKit Go.Lib

/-- the builder's cells -/
abbrev BdC (s : Sn) (ao : Option Addr) (c : Nat) (wl : Bool) : Array Value := #[.int .u64 (s.ix : Nat), .int .u64 (s.tm : Nat), .slice ao s.l.length c, .bool wl]
set_option maxRecDepth 100000 in
theorem bbegin (ix tm : Nat) (w : World) : Calls Tryd.prog 38 #[.int .u64 (ix : Nat), .int .u64 (tm : Nat)] w fun e w' => e = .returned (.pointer (some ⟨w.heap.size, 0, none⟩)) ∧ Blk w' w.heap.size 115 #[.int .u64 (ix : Nat), .int .u64 (tm : Nat), .slice none 0 0, .bool false] ∧ Keeps [] w w' := by
  have hX := Blk.fresh w 115 #[.int .u64 (ix : Nat), .int .u64 (tm : Nat), .slice none 0 0, .bool false]
  have hk := (Keeps.refl [] w).alloc (.cells #[.int .u64 (ix : Nat), .int .u64 (tm : Nat), .slice none 0 0, .bool false] 115)
  go_enter Tryd.func38, Tryd.ntmps38
  go_wp2_with fail
  go_ret
  exact ⟨rfl, hX, hk⟩
section
variable {w : World} {bb ix tm : Nat} {ao : Option Addr} {c : Nat} {l : List UInt8} {wl : Bool}
set_option maxRecDepth 100000 in
theorem bindex (h : Blk w bb 115 #[.int .u64 (ix : Nat), .int .u64 (tm : Nat), .slice ao l.length c, .bool wl]) : Calls Tryd.prog 43 #[.pointer (some ⟨bb, 0, none⟩)] w fun e w' => e = .returned (.int .u64 (ix : Nat)) ∧ w' = w := by
  have hc := h.cell
  go_enter Tryd.func43, Tryd.ntmps43
  go_wp2_with fail
  go_ret
  exact ⟨rfl, rfl⟩
set_option maxRecDepth 100000 in
set_option maxHeartbeats 4000000 in
theorem badd_no (h : Blk w bb 115 #[.int .u64 (ix : Nat), .int .u64 (tm : Nat), .slice ao l.length c, .bool wl]) (off : Int) {da : Option Addr} {dc : Nat} (p : List UInt8) (dn : Bool) (hn : wl = true ∨ off ≠ l.length) :
    Calls Tryd.prog 40 #[.pointer (some ⟨bb, 0, none⟩), .int .i64 off, .slice da p.length dc, .bool dn] w fun e w' => e = .returned (.tuple #[.int .i64 (l.length : Nat), .bool wl]) ∧ Keeps [] w w' := by
  have hc := h.cell
  go_enter Tryd.func40, Tryd.ntmps40
  cases wl
  · have m : ¬ (off = (l.length : Int)) := by simpa using hn
    clear hn
    go_upto_region 5 with (fail)
    go_quiet (fail)
    go_wp2_with fail
    go_ret2
    exact ⟨rfl, (Keeps.refl [] w).drewN _⟩
  · clear hn
    go_upto_region 5 with (fail)
    go_quiet (fail)
    go_wp2_with fail
    go_ret2
    exact ⟨rfl, (Keeps.refl [] w).drewN _⟩
set_option maxRecDepth 100000 in
set_option maxHeartbeats 4000000 in
theorem badd_yes (h : Blk w bb 115 #[.int .u64 (ix : Nat), .int .u64 (tm : Nat), .slice ao l.length c, .bool false]) (hO : OwnG w ao c l) (hb : bb ∉ blks ao) {da : Option Addr} {dc : Nat} {p : List UInt8} (hR : Rb w da dc p) (dn : Bool) (hl : l.length + p.length ≤ 262080) :
    Calls Tryd.prog 40 #[.pointer (some ⟨bb, 0, none⟩), .int .i64 (l.length : Nat), .slice da p.length dc, .bool dn] w fun e w' => ∃ ao' c', e = .returned (.tuple #[.int .i64 ((l ++ p).length : Nat), .bool dn]) ∧ Blk w' bb 115 #[.int .u64 (ix : Nat), .int .u64 (tm : Nat), .slice ao' (l ++ p).length c', .bool dn] ∧ OwnG w' ao' c' (l ++ p) ∧ (∀ x ∈ blks ao', x ∈ blks ao ∨ w.heap.size ≤ x) ∧ Keeps (bb :: blks ao) w w' := by
  obtain ⟨iB, zB, hiB, hzB, hsB, hbB, hcB⟩ := infoB
  have hc := h.cell
  have q1 : IntKind.i64.wrap (262080 - (l.length : Int)) = 262080 - (l.length : Int) := IntWalk.i64_in _ (by omega)
  have m1 : (p.length : Int) ≤ 262080 - (l.length : Int) := by omega
  have hlt := h.lt
  obtain ⟨n, hn⟩ : ∃ n, n = (l ++ p).length := ⟨_, rfl⟩
  have hn' : l.length + p.length = n := by rw [hn, List.length_append]
  rw [← hn]
  have HN := Lib.hid hn
  have HN' := Lib.hid hn'
  clear hn hn'
  go_enter Tryd.func40, Tryd.ntmps40
  go_upto_region 4 with (at_builtin; refine wpList_append_bg _ rfl _ _ 22 22 rfl iB zB Tryd.underlying22 hiB hzB hsB hbB hcB ao c l rfl hO _ rfl p (hR.src Tryd.underlying22) (by unfold maxLen; omega) (by omega) ?_; rw [HN'.out]; intro a5 c5 w5 hO5 hk5 hb5; have hB5 := h.keep hk5 hb; have hc5 := hB5.cell; have hf5 := hB5.free)
  have hB6 := (hB5.put 2 (.slice a5 n c5)).eq (cs' := #[.int .u64 (ix : Nat), .int .u64 (tm : Nat), .slice a5 n c5, .bool false]) rfl
  have hk6 := (Keeps.refl [bb] w5).set (p := ⟨bb, 2, none⟩) (.inl (by simp)) (.slice a5 n c5)
  generalize World.setCell w5 _ _ = w6 at *
  clear hc5 hf5 hc
  have hc6 := hB6.cell
  have hf6 := hB6.free
  go_upto_region 5 with (fail)
  have hB7 := (hB6.put 3 (.bool dn)).eq (cs' := #[.int .u64 (ix : Nat), .int .u64 (tm : Nat), .slice a5 n c5, .bool dn]) rfl
  have hk7 := (Keeps.refl [bb] w6).set (p := ⟨bb, 3, none⟩) (.inl (by simp)) (.bool dn)
  generalize World.setCell w6 _ _ = w7 at *
  clear hc6 hf6
  have hc7 := hB7.cell
  go_quiet (fail)
  go_wp2_with fail
  go_ret2
  have hba : bb ∉ blks a5 := fun hx => (hb5 _ hx).elim hb (fun h => by omega)
  refine ⟨a5, c5, rfl, hB7.drewN _, (((hO5.keep hk6 (fun x hx => by simp; rintro rfl; exact hba hx)).keep hk7 (fun x hx => by simp; rintro rfl; exact hba hx)).keep0 ((Keeps.refl [] w7).drewN _)), hb5, ?_⟩
  exact ((((hk5.mono (fun x hx => List.mem_cons_of_mem _ hx)).step hk6 (fun x hx => .inl (by simp at hx; subst hx; exact .head _))).step hk7 (fun x hx => .inl (by simp at hx; subst hx; exact .head _)))).drewN _
set_option maxRecDepth 100000 in
set_option maxHeartbeats 4000000 in
theorem bsnap_no (h : Blk w bb 115 #[.int .u64 (ix : Nat), .int .u64 (tm : Nat), .slice ao l.length c, .bool false]) : Calls Tryd.prog 41 #[.pointer (some ⟨bb, 0, none⟩)] w fun e w' => e = .returned (.tuple #[.agg #[.int .u64 0, .int .u64 0, .slice none 0 0], .bool false]) ∧ Keeps [] w w' := by
  have hkX := (Keeps.refl [] w).alloc (.cells #[.int .u64 0, .int .u64 0, .slice none 0 0] 69)
  have hX := Blk.fresh w 69 #[.int .u64 0, .int .u64 0, .slice none 0 0]
  have h' := h.keep hkX (by simp)
  have hc := h'.cell
  have hl := h'.lt
  go_enter Tryd.func41, Tryd.ntmps41
  go_wp2_with fail
  refine bodyPost_ret (results_ct rfl rfl hX Tryd.underlying69 rfl Tryd.sizeSnap) rfl ⟨rfl, hkX⟩
end
end Go.Proofs.YtcebbgmjbincbaaDoor
/- Snapshots: the builder's Snapshot when it is whole; Chunk at a place that is none. -/

namespace Go.Proofs.YtcebbgmjbincbaaDoor
open Go.RowKit Go.Lib

set_option maxRecDepth 100000 in
set_option maxHeartbeats 4000000 in
theorem bsnap_yes {w : World} {bb ix tm : Nat} {ao : Option Addr} {c : Nat} {l : List UInt8} (h : Blk w bb 115 #[.int .u64 (ix : Nat), .int .u64 (tm : Nat), .slice ao l.length c, .bool true]) (hO : OwnG w ao c l) (hl : l.length ≤ 1000000) :
    Calls Tryd.prog 41 #[.pointer (some ⟨bb, 0, none⟩)] w fun e w' => ∃ bo d, e = .returned (.tuple #[.agg #[.int .u64 (ix : Nat), .int .u64 (tm : Nat), .slice bo l.length d], .bool true]) ∧ OwnG w' bo d l ∧ (∀ x ∈ blks bo, w.heap.size ≤ x) ∧ Keeps [] w w' := by
  have hkX := (Keeps.refl [] w).alloc (.cells #[.int .u64 0, .int .u64 0, .slice none 0 0] 69)
  have hX := Blk.fresh w 69 #[.int .u64 0, .int .u64 0, .slice none 0 0]
  have h' := h.keep hkX (by simp)
  have hO' := hO.keep0 hkX
  have hc := h'.cell
  have hlt := h'.lt
  go_enter Tryd.func41, Tryd.ntmps41
  go_upto_region 3 with (fail)
  generalize World.alloc w _ = w1 at *
  generalize hr : w.heap.size = r at *
  have hkY := (Keeps.refl [] w1).alloc (.cells #[.int .u64 (ix : Nat), .int .u64 (tm : Nat), .slice ao l.length c] 69)
  have hY := Blk.fresh w1 69 #[.int .u64 (ix : Nat), .int .u64 (tm : Nat), .slice ao l.length c]
  have hX2 := hX.keep hkY (by simp)
  have hr1 : r < w1.heap.size := hX.lt
  have hCl := clone_own ao c l _ (hO'.keep0 hkY).rb (by omega)
  have HCl := Lib.hid hCl
  clear hc hlt hCl
  go_upto_region 4 with (first | (refine wpList_load_agg rfl _ _ rfl bb 0 3 rfl 115 _ _ h' Tryd.underlying69 rfl Tryd.sizeSnap (by simp) _ rfl ?_) | (refine wpList_store_fresh rfl rfl _ _ _ rfl _ rfl rfl _ rfl _ _ Tryd.sizeSnap (by simp) rfl ?_))
  change Code.wp _ _ _ _ (World.alloc w1 (.cells #[.int .u64 (ix : Nat), .int .u64 (tm : Nat), .slice ao l.length c] 69))
  generalize World.alloc w1 _ = w2 at *
  generalize hy : w1.heap.size = y at *
  have hcY := hY.cell
  have hlY := hY.lt
  go_wp2_with fail
  refine HCl.out.mono ?_
  rintro e w3 ⟨bo, d, rfl, hO3, hk3⟩
  have hY3 := hY.keep hk3 (by simp)
  have hX3 := hX2.keep hk3 (by simp)
  clear hcY hlY
  have hcY3 := hY3.cell
  have hfY3 := hY3.free
  go_upto_region 5 with (fail)
  have hY4 := (hY3.put 2 (.slice bo l.length d)).eq (cs' := #[.int .u64 (ix : Nat), .int .u64 (tm : Nat), .slice bo l.length d]) rfl
  have hk4 := (Keeps.refl [y] w3).set (p := ⟨y, 2, none⟩) (.inl (by simp)) (.slice bo l.length d)
  have hX4 := hX3.keep hk4 (by simp; omega)
  generalize World.setCell w3 _ _ = w4 at *
  clear hcY3 hfY3
  have hy2 : y < w2.heap.size := hY.lt
  have hO4 := (OwnG.of hO3).keep hk4 (fun x hx => by simp; rintro rfl; have := (hO3.lt _ hx).1; omega)
  have hb4 : ∀ x ∈ blks bo, w2.heap.size ≤ x := fun x hx => (hO3.lt x hx).1
  go_wp2_with (first | (refine wpList_load_agg rfl _ _ rfl y 0 3 rfl 69 _ _ hY4 Tryd.underlying69 rfl Tryd.sizeSnap (by simp) _ rfl ?_) | (refine wpList_store_agg rfl rfl 69 _ _ rfl r 0 rfl _ rfl 69 _ hX4 Tryd.sizeSnap (by simp) rfl _ rfl ?_; intro w5 hM5 hk5))
  refine bodyPost_ret (results_ct rfl rfl hM5 Tryd.underlying69 rfl Tryd.sizeSnap) rfl ⟨bo, d, rfl, ?_, ?_, ?_⟩
  · exact hO4.keep hk5 (fun x hx => by simp; rintro rfl; have := hb4 _ hx; omega)
  · exact fun x hx => by have := hb4 _ hx; omega
  · exact (((hkX.trans hkY).trans hk3).step hk4 (fun x hx => .inr (by simp at hx; omega))).step hk5 (fun x hx => .inr (by simp at hx; omega))

set_option maxRecDepth 100000 in
set_option maxHeartbeats 4000000 in
theorem chunk_bad (ix tm : Nat) (ao : Option Addr) (c : Nat) (l : List UInt8) (off : Int) (w : World) (ho : off < 0 ∨ (l.length : Int) < off) :
    Calls Tryd.prog 39 #[.agg #[.int .u64 (ix : Nat), .int .u64 (tm : Nat), .slice ao l.length c], .int .i64 off] w fun e w' => ∃ g, e = .returned (.tuple #[.slice none 0 0, .bool false, .iface 116 (.pointer (some ⟨g, 0, none⟩))]) ∧ w'.cell? ⟨g, 1, none⟩ = some (.iface 98 (.int .i64 40)) ∧ Keeps [] w w' := by
  have hX := Blk.fresh w 69 #[.int .u64 (ix : Nat), .int .u64 (tm : Nat), .slice ao l.length c]
  have hkX := (Keeps.refl [] w).alloc (.cells #[.int .u64 (ix : Nat), .int .u64 (tm : Nat), .slice ao l.length c] 69)
  have hkP := hkX.alloc (.cells #[.int .i64 off, .iface 98 (.int .i64 40)] 118)
  have hP := (Blk.fresh (w.alloc (.cells #[.int .u64 (ix : Nat), .int .u64 (tm : Nat), .slice ao l.length c] 69)) 118 #[.int .i64 off, .iface 98 (.int .i64 40)]).cell 1
  have hkP' := Lib.hid hkP
  have HP := Lib.hid hP
  clear hkP hP hkX hX
  go_enter Tryd.func39, Tryd.ntmps39
  by_cases h0 : off < 0
  · go_wp2_with fail
    go_ret3
    exact ⟨_, rfl, by simp, hkP'.out⟩
  · have h1 : (l.length : Int) < off := by omega
    go_wp2_with fail
    go_ret3
    exact ⟨_, rfl, by simp, hkP'.out⟩
end Go.Proofs.YtcebbgmjbincbaaDoor
/- SnapChunks: the walk. -/

namespace Go.Proofs.YtcebbgmjbincbaaDoor
open Go.RowKit Go.Lib

/-- how far the pieces came: has bytes, whole or not, ahead of round k; K: the order's length -/
structure Ck (n K k has : Nat) (wl : Bool) : Prop where
  le : has ≤ n
  all : wl = true → has = n
  more : wl = false → ∃ m, has = 200 * m
  late : wl = false → 200 * (k - K) ≤ has
theorem Ck.done {n K k has : Nat} {wl : Bool} (h : Ck n K k has wl) (hk : K + n / 200 + 2 ≤ k) : wl = true := by
  cases wl with
  | true => rfl
  | false =>
    have := h.late rfl
    have := h.le
    omega
theorem Ck.zero (n K : Nat) : Ck n K 0 0 false := ⟨Nat.zero_le _, by simp, fun _ => ⟨0, rfl⟩, fun _ => by omega⟩
theorem Ck.step {n K k has : Nat} (h : Ck n K k has false) : Ck n K (k + 1) (min (has + 200) n) (decide (n ≤ has + 200)) := by
  obtain ⟨m, hm⟩ := h.more rfl
  have h1 := h.late rfl
  have h2 := h.le
  refine ⟨Nat.min_le_right _ _, fun e => ?_, fun e => ?_, fun e => ?_⟩
  · simp at e; omega
  · simp at e; exact ⟨m + 1, by omega⟩
  · simp at e; omega
theorem Ck.stay {n K k has : Nat} {wl : Bool} (h : Ck n K k has wl) (hk : wl = true ∨ k < K) : Ck n K (k + 1) has wl := by
  refine ⟨h.le, h.all, h.more, fun e => ?_⟩
  rcases hk with hk | hk
  · rw [hk] at e; cases e
  · omega
theorem take_piece (l : List UInt8) (has : Nat) (h : has ≤ l.length) : l.take has ++ (l.drop has).take 200 = l.take (min (has + 200) l.length) := by
  rw [← List.take_add]
  by_cases e : has + 200 ≤ l.length
  · rw [Nat.min_eq_left e]
  · rw [Nat.min_eq_right (by omega), List.take_of_length_le (by omega), List.take_of_length_le (Nat.le_refl _)]

theorem off_eq (ox n : Nat) (hn : n ≤ 3000) : wrap64 (wrap64 (((ox : Int) % ((n : Int) + 1)).tdiv 200) * 200) = ((ox % (n + 1) / 200 * 200 : Nat) : Int) := by
  have h2 : (ox : Int) % ((n : Int) + 1) = ((ox % (n + 1) : Nat) : Int) := by simp
  have h3 := Nat.mod_lt ox (show 0 < n + 1 by omega)
  rw [h2]
  generalize ox % (n + 1) = y at *
  have h1 : ((y : Nat) : Int).tdiv 200 = ((y / 200 : Nat) : Int) := by rw [Int.tdiv_eq_ediv_of_nonneg (by omega)]; omega
  rw [h1]
  have h4 : y / 200 ≤ 15 := by omega
  generalize y / 200 = z at *
  have e1 : wrap64 ((z : Nat) : Int) = z := by unfold wrap64; omega
  rw [e1]
  unfold wrap64
  omega

set_option maxRecDepth 100000 in
set_option maxHeartbeats 16000000 in
theorem schunks (ix tm : Nat) (da : Option Addr) (dc : Nat) (l : List UInt8) (oa : Option Addr) (oc : Nat) (os : List Nat) (w : World) (hg : (w).cell? ⟨0, 0, none⟩ = some (.iface 148 (.agg #[.pointer (some ⟨1, 28, none⟩)]))) (hR : Rb w da dc l) (hS : Sl w 1 oa os.length oc (os.map fun k => Value.int .u16 (k : Nat))) (hos : ∀ k ∈ os, k < 65536) :
    Calls Tryd.prog 6 #[.agg #[.int .u64 (ix : Nat), .int .u64 (tm : Nat), .slice da l.length dc], .slice oa os.length oc] w fun e w' => e = .returned (.bool true) ∧ Keeps [] w w' := by
  have hX := Blk.fresh w 69 #[.int .u64 (ix : Nat), .int .u64 (tm : Nat), .slice da l.length dc]
  have hkX := (Keeps.refl [] w).alloc (.cells #[.int .u64 (ix : Nat), .int .u64 (tm : Nat), .slice da l.length dc] 69)
  have HI := Lib.hid (And.intro hR (And.intro hS (And.intro hos hg)))
  clear hR hS hos hg
  go_enter Tryd.func6, Tryd.ntmps6
  go_upto_region 1 with (fail)
  change Code.wp _ _ _ _ (World.alloc w (.cells #[.int .u64 (ix : Nat), .int .u64 (tm : Nat), .slice da l.length dc] 69))
  generalize World.alloc w _ = w0 at *
  generalize hg2 : w.heap.size = g2 at *
  go_wp2_with fail
  refine (sknown w0).mono ?_
  rintro e w1 ⟨rfl, hk1⟩
  have hX1 := hX.keep hk1 (by simp)
  have hk01 := hkX.trans hk1
  have hc1 := hX1.cell
  have hl1 := hX1.lt
  by_cases hb : 3000 < l.length ∨ 60 < os.length
  · by_cases hb1 : 3000 < l.length
    · have m1 : (3000 : Int) < (l.length : Int) := by omega
      go_wp2_with fail
      go_ret
      exact ⟨rfl, hk01⟩
    · have m1 : ¬ ((3000 : Int) < (l.length : Int)) := by omega
      have m2 : (60 : Int) < (os.length : Int) := by omega
      go_wp2_with fail
      go_ret
      exact ⟨rfl, hk01⟩
  have m1 : ¬ ((3000 : Int) < (l.length : Int)) := by omega
  have m2 : ¬ ((60 : Int) < (os.length : Int)) := by omega
  have hl : l.length ≤ 3000 := by omega
  have ho : os.length ≤ 60 := by omega
  clear hb
  go_wp2_with fail
  refine (bbegin ix tm w1).mono ?_
  rintro e w2 ⟨rfl, hB2, hk2⟩
  have hX2 := hX1.keep hk2 (by simp)
  have hk02 := hk01.trans hk2
  have hgb : g2 < w1.heap.size := hX1.lt
  have hbw : w.heap.size ≤ w1.heap.size := hk01.size
  generalize w1.heap.size = bb at *
  clear hc1 hl1 hX hX1 hk1 hk2 hk01 hkX m1 m2
  have H0 := Lib.hid (And.intro hB2 (And.intro hX2 hk02))
  clear hB2 hX2 hk02
  go_wp2_with fail
  obtain ⟨T, hT⟩ : ∃ T, T = os.length + l.length / 200 + 2 := ⟨_, rfl⟩
  have HT := Lib.hid hT
  have hT' : T ≤ 80 := by omega
  clear hT
  go_loopw [6, 7, 8] (fun v6 v7 v8 wr => ∃ (k has : Nat) (wl : Bool) (ao : Option Addr) (c : Nat), v6 = .int .i64 (has : Int) ∧ v7 = .bool wl ∧ v8 = .int .i64 (k : Int) ∧ k ≤ T ∧ Ck l.length os.length k has wl ∧ Blk wr bb 115 #[.int .u64 (ix : Nat), .int .u64 (tm : Nat), .slice ao (l.take has).length c, .bool wl] ∧ OwnG wr ao c (l.take has) ∧ (∀ x ∈ blks ao, bb < x) ∧ Blk wr g2 69 #[.int .u64 (ix : Nat), .int .u64 (tm : Nat), .slice da l.length dc] ∧ Keeps [] w wr) (fun _ _ v _ => 100 - (intOf v).toNat)
  case atStart => exact ⟨0, 0, false, none, 0, rfl, rfl, rfl, Nat.zero_le _, Ck.zero _ _, H0.out.1, OwnG.nil _, by simp, H0.out.2.1, H0.out.2.2⟩
  case round =>
    obtain ⟨k, has, wl, ao, c, rfl, rfl, rfl, hk, hck, hB, hO, hao, hX, hkw⟩ := hrel
    have hcX := hX.cell
    have hlX := hX.lt
    have hS := HI.out.2.1.keep0 hkw
    have HC := Lib.hid (And.intro hck (And.intro hB (And.intro hO (And.intro hao (And.intro hX hkw)))))
    clear hck hB hO hao hX hkw
    rcases (by omega : k = T ∨ k < T) with hkT | hkT
    · have m1 : ¬ ((k : Int) < (os.length : Int) + (l.length : Int) / 200 + 2) := by have := HT.out; omega
      obtain rfl : wl = true := HC.out.1.done (by have := HT.out; omega)
      have hall := HC.out.1.all rfl
      have hX0 := HC.out.2.2.2.2.1
      have hc0 := hX0.cell
      have hl0 := hX0.lt
      clear hkT hS
      have hC1 := fun W => chunk_bad ix tm da dc l ((l.length : Int) + 1) W (.inr (by omega))
      have hC2 := fun W => chunk_bad ix tm da dc l (-1) W (.inl (by omega))
      have HC1 := Lib.hid hC1
      have HC2 := Lib.hid hC2
      clear hC1 hC2 hall
      go_wp2_with (refine wpList_load_agg rfl _ _ rfl g2 0 3 rfl 69 _ _ hX0 Tryd.underlying69 rfl Tryd.sizeSnap (by simp) _ rfl ?_)
      refine (HC1.out _).mono ?_
      rintro e w3 ⟨ga, rfl, hga, hk3⟩
      have hX3 := hX0.keep hk3 (by simp)
      clear hc0 hl0 hX0
      have hc3 := hX3.cell
      have hl3 := hX3.lt
      have HGA := Lib.hid (And.intro hga hk3)
      clear hga hk3
      go_wp2_with (refine wpList_load_agg rfl _ _ rfl g2 0 3 rfl 69 _ _ hX3 Tryd.underlying69 rfl Tryd.sizeSnap (by simp) _ rfl ?_)
      refine (HC2.out _).mono ?_
      rintro e w4 ⟨gb, rfl, hgb2, hk4⟩
      have hX4 := hX3.keep hk4 (by simp)
      have hga4 := hk4.cellSome HGA.out.1 (by simp)
      have hk34 := HGA.out.2.trans hk4
      have hB4 := HC.out.2.1.keep hk34 (by simp)
      have hkw4 := HC.out.2.2.2.2.2.trans hk34
      have hg4 := hkw4.cellSome HI.out.2.2.2 (by simp)
      have hIx := fun W (hW : Keeps [] w4 W) => bindex (hB4.keep hW (by simp))
      have hA1 := fun W (hW : Keeps [] w4 W) => class_placed0 ga 40 W (hW.cellSome hg4 (by simp)) (hW.cellSome hga4 (by simp))
      have hA2 := fun W (hW : Keeps [] w4 W) => class_placed0 gb 40 W (hW.cellSome hg4 (by simp)) (hW.cellSome hgb2 (by simp))
      have HIx := Lib.hid hIx
      have HA1 := Lib.hid hA1
      have HA2 := Lib.hid hA2
      have HW4 := Lib.hid hkw4
      clear hIx hA1 hA2 hga4 hgb2 hk34 hB4 hkw4 hg4 hc3 hl3 hX3 HGA hk4
      go_upto_region 26 with (fail)
      have hR0 : (∀ W : World, Keeps [] w4 W → ∀ q ∈ [((5 : Nat), fun w0 : World => w0.cell? ⟨g2, 0, none⟩ = some (.int .u64 (ix : Nat)))], q.2 W) := fun W hW q hq => by
        simp only [List.mem_singleton] at hq
        subst hq
        exact hW.cellSome (hX4.cell 0) (by simp)
      have hkd := (Keeps.refl [] w4).drew
      have hSw := hR0 _ hkd
      have HR := Lib.hid hR0
      clear hR0
      refine startU [((5 : Nat), fun w0 : World => w0.cell? ⟨g2, 0, none⟩ = some (.int .u64 (ix : Nat)))] (by kernel_rfl) ?_
      generalize w4.drew = w5 at *
      refine takeU (i := 0) (v := ?_) rfl (by kernel_rfl) (fun _ _ _ h => h) (Or.inl ⟨by rfl, fun w0 hw0 => ?_⟩) (fun p hp _ => hSw p hp) ?_
      rotate_left
      · simp [Reads] at hw0
        go_simp
        try with_reducible rfl
      try go_simp
      refine takeU (i := 1) (v := ?_) rfl (by kernel_rfl) (fun _ _ _ h => h) (Or.inl ⟨by rfl, fun w0 hw0 => ?_⟩) (fun p hp _ => hSw p hp) ?_
      rotate_left
      · simp [Reads] at hw0
        go_simp
        try with_reducible rfl
      try go_simp
      refine takeU (i := 2) (v := ?_) rfl (by kernel_rfl) (fun _ _ _ h => h) (Or.inl ⟨by rfl, fun w0 hw0 => ?_⟩) (fun p hp _ => hSw p hp) ?_
      rotate_left
      · simp [Reads] at hw0
        go_simp
        try with_reducible rfl
      try go_simp
      refine takeU (i := 4) (v := ?_) rfl (by kernel_rfl) (fun _ _ _ h => h) (Or.inl ⟨by rfl, fun w0 hw0 => ?_⟩) (fun p hp _ => hSw p hp) ?_
      rotate_left
      · simp [Reads] at hw0
        go_simp
        try with_reducible rfl
      try go_simp
      refine takeU (i := 5) (v := ?_) rfl (by kernel_rfl) (fun _ _ _ h => h) (Or.inl ⟨by rfl, fun w0 hw0 => ?_⟩) (fun p hp _ => hSw p hp) ?_
      rotate_left
      · simp [Reads] at hw0
        go_simp
        try with_reducible rfl
      try go_simp
      clear hSw
      refine oneU (i := 3) rfl (by kernel_rfl) (fun K hK => ?_)
      rw [if_pos (show Region.wanted _ _ = true from rfl)]
      go_wp2_with fail
      refine (HIx.out w5 hkd).mono ?_
      rintro e w6 ⟨rfl, hw⟩
      obtain rfl := hw.symm
      simp only []
      refine hK _ _ (fun q hq _ _ => HR.out _ hkd q hq) ?_
      clear hK K
      try go_simp
      have hSw := HR.out _ hkd
      refine takeU (i := 6) (v := ?_) rfl (by kernel_rfl) (fun _ _ _ h => h) (Or.inl ⟨by rfl, fun w0 hw0 => ?_⟩) (fun p hp _ => hSw p hp) ?_
      rotate_left
      · simp [Reads] at hw0
        go_simp
        try with_reducible rfl
      try go_simp
      refine takeU (i := 7) (v := ?_) rfl (by kernel_rfl) (fun _ _ _ h => h) (Or.inl ⟨by rfl, fun w0 hw0 => ?_⟩) (fun p hp _ => hSw p hp) ?_
      rotate_left
      · simp [Reads] at hw0
        go_simp
        try with_reducible rfl
      try go_simp
      refine takeU (i := 8) (v := ?_) rfl (by kernel_rfl) (fun _ _ _ h => h) (Or.inl ⟨by rfl, fun w0 hw0 => ?_⟩) (fun p hp _ => hSw p hp) ?_
      rotate_left
      · simp [Reads] at hw0
        go_simp
        try with_reducible rfl
      try go_simp
      refine takeU (i := 9) (v := ?_) rfl (by kernel_rfl) (fun _ _ _ h => h) (Or.inl ⟨by rfl, fun w0 hw0 => ?_⟩) (fun p hp _ => hSw p hp) ?_
      rotate_left
      · simp [Reads] at hw0
        go_simp
        try with_reducible rfl
      try go_simp
      clear hSw
      refine oneU (i := 10) rfl (by kernel_rfl) (fun K hK => ?_)
      rw [if_pos (show Region.wanted _ _ = true from rfl)]
      go_wp2_with fail
      refine (HA1.out w5 hkd).mono ?_
      rintro e w7 ⟨rfl, hk7⟩
      have hk47 := hkd.trans (Keeps.of_below hk7)
      simp only []
      refine hK _ _ (fun q hq _ _ => HR.out _ hk47 q hq) ?_
      clear hK K
      try go_simp
      have hSw := HR.out _ hk47
      refine takeU (i := 11) (v := ?_) rfl (by kernel_rfl) (fun _ _ _ h => h) (Or.inl ⟨by rfl, fun w0 hw0 => ?_⟩) (fun p hp _ => hSw p hp) ?_
      rotate_left
      · simp [Reads] at hw0
        go_simp
        try with_reducible rfl
      try go_simp
      refine takeU (i := 12) (v := ?_) rfl (by kernel_rfl) (fun _ _ _ h => h) (Or.inl ⟨by rfl, fun w0 hw0 => ?_⟩) (fun p hp _ => hSw p hp) ?_
      rotate_left
      · simp [Reads] at hw0
        go_simp
        try with_reducible rfl
      try go_simp
      refine takeU (i := 13) (v := ?_) rfl (by kernel_rfl) (fun _ _ _ h => h) (Or.inl ⟨by rfl, fun w0 hw0 => ?_⟩) (fun p hp _ => hSw p hp) ?_
      rotate_left
      · simp [Reads] at hw0
        go_simp
        try with_reducible rfl
      try go_simp
      refine takeU (i := 14) (v := ?_) rfl (by kernel_rfl) (fun _ _ _ h => h) (Or.inl ⟨by rfl, fun w0 hw0 => ?_⟩) (fun p hp _ => hSw p hp) ?_
      rotate_left
      · simp [Reads] at hw0
        go_simp
        try with_reducible rfl
      try go_simp
      clear hSw
      refine oneU (i := 15) rfl (by kernel_rfl) (fun K hK => ?_)
      rw [if_pos (show Region.wanted _ _ = true from rfl)]
      go_wp2_with fail
      refine (HA2.out w7 hk47).mono ?_
      rintro e w8 ⟨rfl, hk8⟩
      have hk48 := hk47.trans (Keeps.of_below hk8)
      simp only []
      refine hK _ _ (fun q hq _ _ => HR.out _ hk48 q hq) ?_
      clear hK K
      try go_simp
      have hSw := HR.out _ hk48
      refine takeU (i := 16) (v := ?_) rfl (by kernel_rfl) (fun _ _ _ h => h) (Or.inl ⟨by rfl, fun w0 hw0 => ?_⟩) (fun p hp _ => hSw p hp) ?_
      rotate_left
      · simp [Reads] at hw0
        go_simp
        try with_reducible rfl
      try go_simp
      refine takeU (i := 17) (v := ?_) rfl (by kernel_rfl) (fun _ _ _ h => h) (Or.inl ⟨by rfl, fun w0 hw0 => ?_⟩) (fun p hp _ => hSw p hp) ?_
      rotate_left
      · simp [Reads] at hw0
        go_simp
        try with_reducible rfl
      try go_simp
      refine takeU (i := 18) (v := ?_) rfl (by kernel_rfl) (fun _ _ _ h => h) (Or.inl ⟨by rfl, fun w0 hw0 => ?_⟩) (fun p hp _ => hSw p hp) ?_
      rotate_left
      · simp [Reads] at hw0
        go_simp
        try with_reducible rfl
      try go_simp
      clear hSw HR
      refine doneU (by kernel_rfl) ?_
      go_wp2_with fail
      go_ret
      exact ⟨rfl, HW4.out.trans hk48⟩
    have m1 : (k : Int) < (os.length : Int) + (l.length : Int) / 200 + 2 := by have := HT.out; omega
    have HKT := Lib.hid hkT
    clear hkT
    go_upto_if 56 with (fail)
    go_cut [9] (fun v wx => ∃ off : Nat, v = .int .i64 (off : Int) ∧ off ≤ l.length ∧ (off = has ∨ k < os.length) ∧ Keeps [] wr wx)
    case first =>
      by_cases hko : k < os.length
      · have m2 : (k : Int) < (os.length : Int) := by omega
        obtain ⟨ox, hox⟩ : ∃ ox, os[k]? = some ox := ⟨_, List.getElem?_eq_getElem hko⟩
        have hob := HI.out.2.2.1 ox (List.mem_of_getElem? hox)
        have hcap := hS.cap
        obtain ⟨ob, oo, rfl⟩ := hS.at (by omega)
        have co : wr.cell? ⟨ob, oo + k, none⟩ = some (.int .u16 (ox : Nat)) := by
          have := hS.cells rfl k (.int .u16 (ox : Nat)) (by rw [List.getElem?_map, hox]; rfl)
          rwa [addr_add rfl] at this
        have n2 : (0 : Int) ≤ (k : Int) := by omega
        clear hS hox
        go_upto_region 12 with (fail)
        go_quiet (fail)
        rw [off_eq ox l.length hl]
        go_wp2_with fail
        go_meet
        exact ⟨ox % (l.length + 1) / 200 * 200, rfl, by have := Nat.mod_lt ox (show 0 < l.length + 1 by omega); omega, .inr hko, (Keeps.refl [] wr).drewN _⟩
      · have m2 : ¬ ((k : Int) < (os.length : Int)) := by omega
        go_wp2_with fail
        go_meet
        exact ⟨has, rfl, HC.out.1.le, .inl rfl, Keeps.refl _ _⟩
    case rest =>
    generalize wc = wA at *
    obtain ⟨off, rfl, hof, hoh, hkA⟩ := hcut
    clear hS
    obtain ⟨hck, hB, hO, hao, hX, hkw⟩ := HC.out
    have hkwA := hkw.trans hkA
    have hXA := hX.keep hkA (by simp)
    have hBA := hB.keep hkA (by simp)
    have hOA := hO.keep0 hkA
    have hRA := HI.out.1.keep0 hkwA
    have hCh := chunk_any ix tm da dc l off wA hRA (by omega) hof
    obtain ⟨pl, hpl⟩ : ∃ p, p = (l.drop off).take 200 := ⟨_, rfl⟩
    rw [← hpl] at hCh
    obtain ⟨q, hq⟩ : ∃ q : Bool, q = decide (l.length ≤ off + 200) := ⟨_, rfl⟩
    rw [← hq] at hCh
    obtain ⟨en, hen⟩ : ∃ en : Nat, en = min (off + 200) l.length := ⟨_, rfl⟩
    have hplen : pl.length = en - off := by rw [hpl, hen]; simp; omega
    rw [hplen] at hCh
    have hen1 : off ≤ en := by omega
    have hen2 : en ≤ l.length := by omega
    have HCh := Lib.hid hCh
    have HQ := Lib.hid (And.intro hq (And.intro hen (And.intro hpl hplen)))
    have HA := Lib.hid (And.intro hBA (And.intro hOA (And.intro hao hkwA)))
    have HK := Lib.hid (And.intro hck hoh)
    clear hCh hq hen hpl hplen hBA hOA hao hkwA hck hoh hB hO hX hkw hkA hRA hcX hlX m1 HC
    go_wp2_with (refine wpList_load_agg rfl _ _ rfl g2 0 3 rfl 69 _ _ hXA Tryd.underlying69 rfl Tryd.sizeSnap (by simp) _ rfl ?_)
    refine HCh.out.mono ?_
    rintro e w3 ⟨bo, d, rfl, hO3, hk3⟩
    have hX3 := hXA.keep hk3 (by simp)
    have hc3 := hX3.cell
    have hl3 := hX3.lt
    have HO3 := Lib.hid (And.intro hO3 hk3)
    clear hXA hO3 hk3 HCh
    go_upto_region 15 with (fail)
    have hmn : min ((off : Int) + 200) (l.length : Int) = (en : Int) := by have := HQ.out.2.1; omega
    rw [hmn]
    clear hmn hc3 hl3
    have hk3 := HO3.out.2
    have hkw3 := HA.out.2.2.2.trans hk3
    have hR3 := HI.out.1.keep0 hkw3
    have hcap := hR3.cap
    have n1 : (0 : Int) ≤ (off : Int) := by omega
    have n2 : (off : Int) ≤ (en : Int) := by omega
    have n3 : (en : Int) ≤ (dc : Int) := by omega
    have hbe : ((en : Int) == (l.length : Int)) = q := by
      rw [HQ.out.1, Bool.eq_iff_iff]
      simp only [beq_iff_eq, decide_eq_true_eq]
      have := HQ.out.2.1
      omega
    have hpp : pl = (l.drop off).take (en - off) := by
      rw [HQ.out.2.2.1, HQ.out.2.1]
      by_cases e : off + 200 ≤ l.length
      · rw [Nat.min_eq_left e]; congr 1; omega
      · rw [Nat.min_eq_right (by omega), List.take_of_length_le (by simp; omega), List.take_of_length_le (by simp)]
    have hP := Rb.piece hR3 (z := off) (n := en - off) (by omega)
    rw [← hpp] at hP
    have hOb := HO3.out.1.rb
    have hBy := bytes_any bo (if dc = off then da else da.map (·.add off)) d (dc - off) pl pl w3 hOb hP
    rw [HQ.out.2.2.2, show (pl == pl) = true by simp] at hBy
    have HBy := Lib.hid hBy
    have HBE := Lib.hid hbe
    have hc3 := hX3.cell
    have hl3 := hX3.lt
    clear hBy hP hpp hOb hR3 hkw3 hk3
    go_cut [102] (fun v wx => v = .bool false ∧ wx = w3)
    case first =>
      by_cases hdc : dc = off
      · rw [if_pos hdc] at HBy
        subst hdc
        rw [Nat.sub_self] at HBy
        go_wp2_with fail
        refine HBy.out.mono ?_
        rintro e w4 ⟨rfl, hw⟩
        obtain rfl := hw.symm
        go_wp2_with fail
        go_meet
        exact ⟨by simp, rfl⟩
      · rw [if_neg hdc] at HBy
        have hdc1 : off < dc := by omega
        have hS3 := HI.out.1
        obtain ⟨zb, zo, rfl⟩ := hS3.at (by omega)
        clear hS3
        simp only [Option.map_some, addr_add] at HBy
        go_wp2_with fail
        refine HBy.out.mono ?_
        rintro e w4 ⟨rfl, hw⟩
        obtain rfl := hw.symm
        go_wp2_with fail
        go_meet
        exact ⟨by simp, rfl⟩
    case rest =>
    obtain ⟨rfl, hw⟩ := hcut
    obtain rfl := hw.symm
    clear hc3 hl3 n1 n2 n3 HBE HBy
    obtain ⟨has2, wl2, h2⟩ : ∃ (has2 : Nat) (wl2 : Bool), (wl = false ∧ off = has ∧ has2 = en ∧ wl2 = q) ∨ ((wl = true ∨ off ≠ has) ∧ has2 = has ∧ wl2 = wl) := by
      by_cases e : wl = false ∧ off = has
      · exact ⟨en, q, .inl ⟨e.1, e.2, rfl, rfl⟩⟩
      · refine ⟨has, wl, .inr ⟨?_, rfl, rfl⟩⟩
        cases wl
        · exact .inr (fun h => e ⟨rfl, h⟩)
        · exact .inl rfl
    have hck2 : Ck l.length os.length (k + 1) has2 wl2 := by
      obtain ⟨hck, hoh⟩ := HK.out
      rcases h2 with ⟨rfl, rfl, rfl, rfl⟩ | ⟨h2, rfl, rfl⟩
      · have := hck.step
        rw [HQ.out.1, HQ.out.2.1]
        exact this
      · refine hck.stay ?_
        rcases h2 with h2 | h2
        · exact .inl h2
        · exact .inr (hoh.resolve_left h2)
    have hle2 := hck2.le
    have H2 := Lib.hid (And.intro h2 hck2)
    clear h2 hck2
    go_upto_region 17 with (fail)
    go_cut [14, 15] (fun v14 v15 wx => v14 = .int .i64 (has2 : Int) ∧ v15 = .bool wl2 ∧ ∃ (ao2 : Option Addr) (c2 : Nat), Blk wx bb 115 #[.int .u64 (ix : Nat), .int .u64 (tm : Nat), .slice ao2 (l.take has2).length c2, .bool wl2] ∧ OwnG wx ao2 c2 (l.take has2) ∧ (∀ x ∈ blks ao2, bb < x) ∧ Blk wx g2 69 #[.int .u64 (ix : Nat), .int .u64 (tm : Nat), .slice da l.length dc] ∧ Keeps [] w wx)
    case first =>
      obtain ⟨hBA, hOA, hao, hkwA⟩ := HA.out
      have hle := HK.out.1.le
      have hB3 := hBA.keep HO3.out.2 (by simp)
      have hO3 := hOA.keep0 HO3.out.2
      have hkw3 := hkwA.trans HO3.out.2
      have htl : (l.take has).length = has := by rw [List.length_take]; omega
      have HTL := Lib.hid htl
      rcases H2.out.1 with ⟨rfl, rfl, rfl, rfl⟩ | ⟨h2, rfl, rfl⟩
      · have hbao : bb ∉ blks ao := fun hx => by have := hao _ hx; omega
        have hAd := badd_yes hB3 hO3 hbao HO3.out.1.rb wl2 (by rw [htl, HQ.out.2.2.2]; omega)
        have htk : l.take off ++ pl = l.take has2 := by rw [HQ.out.2.2.1, HQ.out.2.1]; exact take_piece l off hof
        rw [htl, htk, HQ.out.2.2.2, show (l.take has2).length = has2 by rw [List.length_take]; omega] at hAd
        have HAd := Lib.hid hAd
        have H5 := Lib.hid (And.intro hao (And.intro hX3 (And.intro hkw3 hB3.lt)))
        clear hAd hBA hOA hao hkwA hB3 hO3 hkw3 htl htk hbao hle
        go_wp2_with fail
        refine HAd.out.mono ?_
        rintro e w5 ⟨ao5, c5, rfl, hB5, hO5, hb5, hk5⟩
        go_wp2_with fail
        go_meet
        obtain ⟨hao, hX3, hkw3, hbl⟩ := H5.out
        refine ⟨rfl, rfl, ao5, c5, hB5.eq (by rw [show (l.take has2).length = has2 by rw [List.length_take]; omega]), hO5, fun x hx => (hb5 x hx).elim (hao x) (fun h => by omega), hX3.keep hk5 (by intro h; rcases List.mem_cons.1 h with h | h; omega; have := hao _ h; omega), hkw3.step hk5 (fun x hx => .inr ?_)⟩
        rcases List.mem_cons.1 hx with rfl | hx
        · exact hbw
        · have := hao x hx; omega
      · have hAd := badd_no hB3 (off : Int) (da := bo) (dc := d) pl q (h2.imp id (fun h => by rw [htl]; omega))
        rw [htl, HQ.out.2.2.2] at hAd
        have HAd := Lib.hid hAd
        have H5 := Lib.hid (And.intro hao (And.intro hX3 (And.intro hkw3 (And.intro hB3 hO3))))
        clear hAd hBA hOA hao hkwA hB3 hO3 hkw3 htl hle h2
        go_wp2_with fail
        refine HAd.out.mono ?_
        rintro e w5 ⟨rfl, hk5⟩
        go_wp2_with fail
        go_meet
        obtain ⟨hao, hX3, hkw3, hB3, hO3⟩ := H5.out
        exact ⟨rfl, rfl, ao, c, hB3.keep hk5 (by simp), hO3.keep0 hk5, hao, hX3.keep hk5 (by simp), hkw3.trans hk5⟩
    case rest =>
    generalize wc = w5 at *
    obtain ⟨rfl, rfl, ao2, c2, hB5, hO5, hao5, hX5, hkw5⟩ := hcut
    clear hX3 HO3 HA
    have hbw5 : bb < w5.heap.size := hB5.lt
    obtain ⟨t, ht⟩ : ∃ t : Bool, t = decide (wl = false ∧ off = has) := ⟨_, rfl⟩
    have HT2 := Lib.hid ht
    have H6 := Lib.hid (And.intro hB5 (And.intro hO5 (And.intro hao5 hkw5)))
    clear ht hB5 hO5 hao5 hkw5
    go_upto_region 18 with (fail)
    go_cut [117] (fun v wx => v = .bool t ∧ wx = w5)
    case first =>
      cases wl
      · by_cases e : off = has
        · obtain rfl : t = true := by rw [HT2.out]; simp [e]
          have e1 : ((off : Int) == (has : Int)) = true := by simp [e]
          clear e
          go_wp2_with fail
          go_meet
          exact ⟨rfl, rfl⟩
        · obtain rfl : t = false := by rw [HT2.out]; simp [e]
          have e1 : ((off : Int) == (has : Int)) = false := by simp; omega
          clear e
          go_wp2_with fail
          go_meet
          exact ⟨rfl, rfl⟩
      · obtain rfl : t = false := by rw [HT2.out]; simp
        go_wp2_with fail
        go_meet
        exact ⟨rfl, rfl⟩
    case rest =>
    obtain ⟨rfl, hw⟩ := hcut
    obtain rfl := hw.symm
    go_upto_if 117 with (fail)
    go_cut [6, 7] (fun v6 v7 wx => v6 = .int .i64 (has2 : Int) ∧ v7 = .bool wl2 ∧ wx = w5)
    case first =>
      rcases H2.out.1 with ⟨rfl, rfl, rfl, rfl⟩ | ⟨h2, rfl, rfl⟩
      · obtain rfl : t = true := by rw [HT2.out]; simp
        go_wp2_with fail
        go_meet
        exact ⟨rfl, rfl, rfl⟩
      · obtain rfl : t = false := by
          rw [HT2.out]
          rcases h2 with h2 | h2 <;> simp [h2]
        clear h2
        go_wp2_with fail
        go_meet
        exact ⟨rfl, rfl, rfl⟩
    case rest =>
    obtain ⟨rfl, rfl, hw⟩ := hcut
    obtain rfl := hw.symm
    cases wl2 with
    | true =>
      have hall := H2.out.2.all rfl
      have htk : l.take has2 = l := by rw [hall, List.take_length]
      have hSn := bsnap_yes H6.out.1 H6.out.2.1 (by simp; omega)
      rw [htk] at hSn
      have HSn := Lib.hid hSn
      clear hSn htk hall
      go_wp2_with fail
      refine HSn.out.mono ?_
      rintro e w6 ⟨bo6, d6, rfl, hO6, hb6, hk6⟩
      have hX6 := hX5.keep hk6 (by simp)
      have hB16 := Blk.fresh w6 69 #[.int .u64 (ix : Nat), .int .u64 (tm : Nat), .slice bo6 l.length d6]
      have hkX := (Keeps.refl [] w6).alloc (.cells #[.int .u64 (ix : Nat), .int .u64 (tm : Nat), .slice bo6 l.length d6] 69)
      have hX7 := hX6.keep hkX (by simp)
      have hk57 := hk6.trans hkX
      have hkw7 := H6.out.2.2.2.trans hk57
      have hSm := same_any ⟨ix, tm, l⟩ ⟨ix, tm, l⟩ bo6 da d6 dc _ (hO6.keep0 hkX).rb (HI.out.1.keep0 hkw7)
      rw [decide_eq_true rfl] at hSm
      have HSm := Lib.hid hSm
      have H7 := Lib.hid (And.intro hk57 hkw7)
      clear hSm hk57 hkw7 hb6 hO6 hk6 hkX hX6
      go_upto_region 22 with (refine wpList_store_fresh rfl rfl _ _ _ rfl _ rfl rfl _ rfl _ _ Tryd.sizeSnap (by simp) rfl ?_)
      generalize World.alloc w6 _ = w7 at *
      generalize w6.heap.size = g16 at *
      go_wp2_with (first | (refine wpList_load_aggG rfl _ _ rfl g16 0 3 rfl 69 _ _ hB16 Tryd.underlying69 rfl Tryd.sizeSnap (by simp) _ rfl ?_) | (refine wpList_load_aggG rfl _ _ rfl g2 0 3 rfl 69 _ _ hX7 Tryd.underlying69 rfl Tryd.sizeSnap (by simp) _ rfl ?_))
      refine HSm.out.mono ?_
      rintro e w8 ⟨rfl, hk8⟩
      go_wp2_with fail
      go_roundw
      case rel =>
        have hs := H7.out.1.trans hk8
        exact ⟨k + 1, has2, true, ao2, c2, rfl, rfl, by simp, by have := HKT.out; omega, H2.out.2, H6.out.1.keep hs (by simp), H6.out.2.1.keep0 hs, H6.out.2.2.1, hX7.keep hk8 (by simp), H7.out.2.trans hk8⟩
      case measure => simp [intOf]; omega
    | false =>
      have hSn := bsnap_no H6.out.1
      have HSn := Lib.hid hSn
      clear hSn
      go_wp2_with fail
      refine HSn.out.mono ?_
      rintro e w6 ⟨rfl, hk6⟩
      have hX6 := hX5.keep hk6 (by simp)
      have hB16 := Blk.fresh w6 69 #[.int .u64 0, .int .u64 0, .slice none 0 0]
      have hkX := (Keeps.refl [] w6).alloc (.cells #[.int .u64 0, .int .u64 0, .slice none 0 0] 69)
      have hX7 := hX6.keep hkX (by simp)
      have hk57 := hk6.trans hkX
      have hkw7 := H6.out.2.2.2.trans hk57
      have hSm := same_any ⟨0, 0, []⟩ ⟨0, 0, []⟩ none none 0 0 (w6.alloc (.cells #[.int .u64 0, .int .u64 0, .slice none 0 0] 69)) (Sl.none _ 1) (Sl.none _ 1)
      rw [decide_eq_true rfl] at hSm
      have HSm := Lib.hid hSm
      have H7 := Lib.hid (And.intro hk57 hkw7)
      clear hSm hk57 hkw7 hk6 hkX hX6
      go_upto_region 22 with (refine wpList_store_fresh rfl rfl _ _ _ rfl _ rfl rfl _ rfl _ _ Tryd.sizeSnap (by simp) rfl ?_)
      generalize World.alloc w6 _ = w7 at *
      generalize w6.heap.size = g16 at *
      go_wp2_with (first | (refine wpList_load_aggG rfl _ _ rfl g16 0 3 rfl 69 _ _ hB16 Tryd.underlying69 rfl Tryd.sizeSnap (by simp) _ rfl ?_) | (refine wpList_load_aggG rfl _ _ rfl g2 0 3 rfl 69 _ _ hX7 Tryd.underlying69 rfl Tryd.sizeSnap (by simp) _ rfl ?_))
      refine HSm.out.mono ?_
      rintro e w8 ⟨rfl, hk8⟩
      go_wp2_with fail
      go_roundw
      case rel =>
        have hs := H7.out.1.trans hk8
        exact ⟨k + 1, has2, false, ao2, c2, rfl, rfl, by simp, by have := HKT.out; omega, H2.out.2, H6.out.1.keep hs (by simp), H6.out.2.1.keep0 hs, H6.out.2.2.1, hX7.keep hk8 (by simp), H7.out.2.trans hk8⟩
      case measure => simp [intOf]; omega
end Go.Proofs.YtcebbgmjbincbaaDoor
/- SnapChunks: what comes in. -/

namespace Go.Proofs.YtcebbgmjbincbaaDoor
open Go.RowKit Go.Lib
theorem in_one_u16 : Tryd.prog.cellsOf 73 = 1 := by kernel_rfl
section
variable {H : Type} {enc : TypeId × Value → H} {w : World}
theorem sn_in {cs : List Value} (h : Rd enc w 69 cs) : ∃ (ix tm : Nat) (da : Option Addr) (dc : Nat) (l : List UInt8), cs = [.int .u64 (ix : Nat), .int .u64 (tm : Nat), .slice da l.length dc] ∧ Rb w da dc l := by
  obtain ⟨hl, hs⟩ := h.struct Tryd.underlying69
  rw [in_sn3] at hl
  obtain ⟨c0, l0, rfl, e0⟩ := in_cons hl
  obtain ⟨c1, l1, rfl, e1⟩ := in_cons e0
  obtain ⟨c2, l2, rfl, e2⟩ := in_cons e1
  obtain rfl := List.eq_nil_of_length_eq_zero e2
  have m0 : Rd enc w 67 [c0] := by have := hs 0 _ rfl; simpa [in_one_u64] using this
  have m1 : Rd enc w 67 [c1] := by have := hs 1 _ rfl; simpa [in_one_u64] using this
  have m2 : Rd enc w 22 [c2] := by have := hs 2 _ rfl; simpa [in_one_u64, in_one_bs] using this
  obtain ⟨x0, ex0, h0⟩ := m0.int Tryd.underlying67
  obtain ⟨x1, ex1, h1⟩ := m1.int Tryd.underlying67
  obtain ⟨da, dl, dc, ed, _⟩ := m2.slice Tryd.underlying22 in_one_u8 (by omega)
  simp only [List.cons.injEq, and_true] at ex0 ex1 ed
  subst ex0 ex1 ed
  obtain ⟨l, rfl, hR⟩ := rb_in m2
  obtain ⟨ix, rfl⟩ := Int.eq_ofNat_of_zero_le (bounds_u64 h0).1
  obtain ⟨tm, rfl⟩ := Int.eq_ofNat_of_zero_le (bounds_u64 h1).1
  exact ⟨ix, tm, da, dc, l, rfl, hR⟩
theorem u16s_in {a : Option Addr} {len cap : Nat} (h : Rd enc w 70 [.slice a len cap]) : ∃ l : List Nat, l.length = len ∧ (∀ k ∈ l, k < 65536) ∧ Sl w 1 a len cap (l.map fun k => Value.int .u16 (k : Nat)) := by
  obtain ⟨l, hl, hq, hS⟩ := sl_in h Tryd.underlying70 in_one_u16 (by omega) (0 : Nat) (fun b => [Value.int .u16 (b : Nat)]) (fun k => k < 65536) (fun _ => rfl)
    (by intro v u hu; simp at hu; subst hu; rfl) (fun cs hc => by
      obtain ⟨m, rfl, hm⟩ := hc.int Tryd.underlying73
      have hb := bounds_u16 hm
      obtain ⟨k, rfl⟩ := Int.eq_ofNat_of_zero_le hb.1
      exact ⟨k, rfl, by omega⟩)
  rw [flat_one] at hS
  exact ⟨l, hl, hq, hS⟩
end
end Go.Proofs.YtcebbgmjbincbaaDoor
