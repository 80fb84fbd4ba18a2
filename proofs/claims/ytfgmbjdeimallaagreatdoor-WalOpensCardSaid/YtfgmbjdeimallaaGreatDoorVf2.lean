/- WalOpens: the walk. -/
import Derived.Test.YtfgmbjdeimallaaGreatDoorVfZ
import Derived.Test.YtfgmbjdeimallaaGreatDoorWgZ

namespace Go.Proofs.YtfgmbjdeimallaaGreatDoor
open Go.RowKit Go.Lib

theorem rb_mark (w : World) (l : List UInt8) (m : Nat × Nat) (hl : l.length ≤ maxLen) : Rb (w.alloc (.cells (bys l).toArray 5 m)) (some ⟨w.heap.size, 0, none⟩) l.length l := by
  refine ⟨by simp, Nat.le_refl _, hl, fun e => by simp at e, fun _ ad e => by cases e; rfl, ?_, bys_one l⟩
  intro ad e j u hj
  cases e
  have := cell_of_row (w.alloc (.cells (bys l).toArray 5 m)) w.heap.size (0 + j) (bys l).toArray 5 m (heap_alloc_new w _)
  rw [this, Nat.zero_add]
  simpa using hj

section
variable {w : World} {L : List Nat} {db : Nat} {d : DSt}
theorem dappend_new (h : Disk w L db d) (n b : List UInt8) (hn : n.length ≤ 1000000) (hbl : b.length ≤ 1000000) (hc : d.count < 4611686018427387904) (m : Nat × Nat) :
    Calls Tryz.prog 8 #[.pointer (some ⟨db, 0, none⟩), .string ⟨n.toArray⟩, .slice (some ⟨w.heap.size, 0, none⟩) b.length b.length] (w.alloc (.cells (bys b).toArray 5 m)) (DPost w L db (d.append n b)) := by
  have hkA := (Keeps.refl [] w).alloc (.cells (bys b).toArray 5 m)
  refine (dappend (h.keep0 hkA) n b hn (rb_mark w b m (by unfold maxLen; omega)) (by omega) (fun ad e _ hx => ?_) hc).mono ?_
  · cases e
    have := h.lt _ hx
    simp at this
  · rintro e w' ⟨ev, L', rfl, h1, h2, h3, h4⟩
    exact ⟨ev, L', rfl, h1, h2, hkA.of_nil.trans h3, fun x hx => (h4 x hx).imp id (fun h => Nat.le_trans hkA.size h)⟩
end
abbrev nmOther : List UInt8 := [111, 116, 104, 101, 114]
abbrev bKept : List UInt8 := [107, 101, 112, 116]
abbrev oKept : List (List UInt8 × Fil) := [(nmOther, ⟨bKept, 4⟩)]
abbrev dKept : DSt := ⟨oKept, 80000, 2, -1, false⟩
theorem okO_kept : OkO oKept := ⟨by simp [usedOf], by simp, by simp⟩
theorem wf_kept : WF oKept dKept [Ws.nil] := ⟨by decide, by simp, rfl, by decide, .inl ⟨rfl, .head _⟩⟩

theorem WF.halt {o : List (List UInt8 × Fil)} {d : DSt} {may : List Ws} (h : WF o d may) (k : Int) : WF o { d with halt := k } may := ⟨h.room, h.nodup, h.rest, h.new, h.file⟩
/-- Open, sure or cut off: the disk tells what it told -/
theorem OpenP.loud {w w' : World} {L : List Nat} {db : Nat} {o : List (List UInt8 × Fil)} {d : DSt} {s : Ws} {e : Ending} (h : OpenP w L db o d [s] e w') :
    ∃ pv ev L' d', e = .returned (.tuple #[pv, ev]) ∧ Disk w' L' db d' ∧ WF o d' [s] ∧ Keeps L w w' ∧ (∀ x ∈ L', x ∈ L ∨ w.heap.size ≤ x) ∧ d'.count ≤ d.count + 3 := by
  obtain ⟨pv, ev, L', d', r, rfl, hE, hD, hk, hL, hc, hr, hh⟩ := h
  refine ⟨pv, ev, L', d', rfl, hD, ?_, hk, hL, hc⟩
  rcases hh with ⟨_, wb, E, s', z, _, _, _, _, hs, hJ, _⟩ | ⟨_, hF, _⟩
  · obtain rfl : s' = s := by simpa using hs
    exact hJ.wf
  · exact hF
theorem mget_others {α : Type} {n : List UInt8} (h1 : n ≠ nmWal) (h2 : n ≠ nmNew) : ∀ fs : List (List UInt8 × α), mget n (others fs) = mget n fs
  | [] => rfl
  | f :: r => by
    have ih := mget_others h1 h2 r
    by_cases hf : f.1 = n
    · have e1 : others (f :: r) = f :: others r := by
        unfold others
        rw [List.filter_cons_of_pos]
        simp [hf, h1, h2]
      rw [e1]
      simp [mget, hf]
    · have e2 : mget n (f :: r) = mget n r := by simp [mget, hf]
      rw [e2, ← ih]
      unfold others
      rw [List.filter_cons]
      split
      · simp [mget, hf]
      · rfl
theorem read_other {d : DSt} {s : Ws} {z : Int} {may : List Ws} (h : WJ oKept d s z may) : d.read nmOther = (bKept, .ok) := by
  have h1 := mget_others (n := nmOther) (by decide) (by decide) d.fs
  rw [h.rest] at h1
  have h2 : mget nmOther d.fs = some ⟨bKept, 4⟩ := by rw [← h1]; rfl
  simp [DSt.read, h.on, h2]
/-- the disk ahead of a halt -/
def HaltAt (w1 wr : World) (db i : Nat) (s : Ws) : Prop := ∃ L d, Disk wr L db d ∧ WF oKept d [s] ∧ d.off = false ∧ d.count ≤ 100 + 10 * i ∧ Keeps [] w1 wr ∧ ∀ x ∈ L, w1.heap.size ≤ x

set_option maxRecDepth 100000 in
set_option maxHeartbeats 8000000 in
theorem wlopens (la : Option Addr) (lc : Nat) (l : List Ent) (t : Nat) (v : Int) (ha : Option Addr) (hc : Nat) (hs : List UInt8) (ka : Option Addr) (kc : Nat) (keep : List Int) (w : World) (hg : (w).cell? ⟨0, 0, none⟩ = some (.iface 140 (.agg #[.pointer (some ⟨1, 38, none⟩)]))) (hR : Re w la lc l) (he : ∀ e ∈ l, e.term < 18446744073709551616 ∧ e.client < 18446744073709551616 ∧ e.seq < 18446744073709551616) (ht : t < 18446744073709551616) (hH : Rb w ha hc hs) (hK : Sl w 1 ka keep.length kc (keep.map (Value.int .i64))) :
    Calls Tryz.prog 3 #[.slice la l.length lc, .agg #[.int .u64 (t : Nat), .int .i64 v], .slice ha hs.length hc, .agg #[.slice ka keep.length kc]] w fun e w' => e = .returned (.bool true) ∧ Keeps [] w w' := by
  obtain ⟨iE, zE, hiE, hzE, hsE, hbE, hcE⟩ := infoEn
  have HG := Lib.hid hg
  clear hg
  have hX0 := Blk.fresh w 25 #[.int .u64 (t : Nat), .int .i64 v]
  have hk0 := (Keeps.refl [] w).alloc (.cells #[.int .u64 (t : Nat), .int .i64 v] 25)
  have hX1 := hX0.alloc (.cells #[.slice ka keep.length kc] 29)
  have hY1 := Blk.fresh (w.alloc (.cells #[.int .u64 (t : Nat), .int .i64 v] 25)) 29 #[.slice ka keep.length kc]
  have hk1 := hk0.alloc (.cells #[.slice ka keep.length kc] 29)
  obtain ⟨hb, hhb⟩ : ∃ hb, hb = w.heap.size := ⟨_, rfl⟩
  obtain ⟨cb, hcb⟩ : ∃ cb, cb = w.heap.size + 1 := ⟨_, rfl⟩
  rw [← hhb] at hX1
  rw [show (w.alloc (.cells #[.int .u64 (t : Nat), .int .i64 v] 25)).heap.size = w.heap.size + 1 by simp, ← hcb] at hY1
  have hKn : ∀ ad, ka = some ad → keep ≠ [] → ad.block < w.heap.size := fun ad e hne => hK.lt e (by simpa using hne)
  have H0 := Lib.hid (And.intro hX1 (And.intro hY1 (And.intro hk1 (And.intro (hR.keep0 hk1) (And.intro (hH.keep0 hk1) (And.intro (hK.keep0 hk1) hKn))))))
  clear hX0 hk0 hX1 hY1 hk1 hR hH hK hKn
  go_enter Tryz.func3, Tryz.ntmps3
  go_upto_region 1 with (fail)
  rw [← hcb, ← hhb]
  clear hhb hcb
  generalize World.alloc (World.alloc w _) _ = w1 at *
  go_wp2_with fail
  refine (wlknown w1).mono ?_
  rintro e w2 ⟨rfl, hk2⟩
  have hxS := Blk.fresh w2 33 #[.int .i64 0, .int .i64 0, .int .u64 0, .int .u64 0, .int .i64 0, .slice la l.length lc, .slice none 0 0]
  have hkS := (Keeps.refl [] w2).alloc (.cells #[.int .i64 0, .int .i64 0, .int .u64 0, .int .u64 0, .int .i64 0, .slice la l.length lc, .slice none 0 0] 33)
  have hk12 := hk2.trans hkS
  have hF := wlfew (some ⟨w2.heap.size, 0, none⟩) 1 [(⟨0, 0, 0, 0, 0, la, lc, l, none, 0, []⟩ : Wp)] _ (by
    intro k s hs
    match k, hs with
    | 0, hs =>
      obtain rfl : (⟨0, 0, 0, 0, 0, la, lc, l, none, 0, []⟩ : Wp) = s := by simpa using hs
      refine ⟨⟨by simp, by simp, by simp, H0.out.2.2.2.1.keep0 hk12, he, Sl.none _ _⟩, w2.heap.size, 0, rfl, fun j u hj => ?_⟩
      rw [show 0 + 0 * 7 + j = j by omega, hxS.cell]
      simpa [Wp.cells] using hj
    | k + 1, hs => simp at hs) (by simp)
  have HF := Lib.hid (And.intro hF hk12)
  clear hxS hk2 hkS hk12 hF
  go_wp2_with fail
  refine HF.out.1.mono ?_
  rintro e w3 ⟨q, rfl, hq, hk3⟩
  have HQ := Lib.hid (And.intro hq (HF.out.2.trans hk3))
  clear hq hk3 HF
  have HZ := Lib.hid HQ.out.2
  cases q with
  | false =>
    go_wp2_with fail
    go_ret
    exact ⟨rfl, H0.out.2.2.1.trans HZ.out⟩
  | true =>
  have hcH := (H0.out.1.keep HQ.out.2 (by simp)).cell
  have hcK := (H0.out.2.1.keep HQ.out.2 (by simp)).cell
  by_cases n1 : (10 : Int) < (hs.length : Int)
  · go_wp2_with fail
    go_ret
    exact ⟨rfl, H0.out.2.2.1.trans HZ.out⟩
  by_cases n2 : (100 : Int) < (keep.length : Int)
  · go_wp2_with fail
    go_ret
    exact ⟨rfl, H0.out.2.2.1.trans HZ.out⟩
  by_cases n3 : v < -1
  · go_wp2_with fail
    go_ret
    exact ⟨rfl, H0.out.2.2.1.trans HZ.out⟩
  by_cases n4 : 1000 < v
  · go_wp2_with fail
    go_ret
    exact ⟨rfl, H0.out.2.2.1.trans HZ.out⟩
  have hF0 := HQ.out.1 rfl
  have hfw : small l 12 = true := (hF0.each (⟨0, 0, 0, 0, 0, la, lc, l, none, 0, []⟩ : Wp) (by simp)).1
  have hsum : sumE l ≤ 12000 := by have := hF0.sum; simpa [sumW] using this
  clear hF0
  go_upto_region 5 with (fail)
  clear hcH hcK
  have HS := Lib.hid (And.intro hfw hsum)
  clear hfw hsum
  go_wp2_with fail
  refine (dnew 80000 (by omega) w3).mono ?_
  rintro e w4 ⟨db, L4, rfl, hD, hk4, hL4⟩
  have q1 := Lib.run_convert_bytes_const (P := Tryz.prog) w4 26 5 #[.int .u8 107, .int .u8 101, .int .u8 112, .int .u8 116] 4 4 Tryz.underlying26 Tryz.underlying5
  have HD := Lib.hid (And.intro (dappend_new hD nmOther bKept (by decide) (by decide) (by decide) (4, 5)) (And.intro hk4 hL4))
  clear hD hk4 hL4
  go_wp2_with fail
  refine HD.out.1.mono ?_
  rintro e w5 ⟨ev, L5, rfl, hE, hD5, hk5, hL5⟩
  rw [show DSt.append ⟨[], (80000 : Int).toNat, 0, -1, false⟩ nmOther bKept = (⟨[(nmOther, ⟨bKept, 0⟩)], 80000, 1, -1, false⟩, .ok) by rfl] at hE hD5
  obtain rfl : ev = .nilIface := hE
  have hs3 := HZ.out.size
  have hk15 := (HZ.out.trans HD.out.2.1).step hk5 (fun x hx => .inr (Nat.le_trans hs3 (HD.out.2.2 x hx)))
  have hL5' : ∀ x ∈ L5, w1.heap.size ≤ x := fun x hx => (hL5 x hx).elim (fun h => Nat.le_trans hs3 (HD.out.2.2 x h)) (fun h => Nat.le_trans (HZ.out.trans HD.out.2.1).size h)
  have HY := Lib.hid (And.intro (dsync hD5 nmOther (by decide)) (And.intro hk15 hL5'))
  clear q1 hD5 hk5 hL5 hs3 hk15 hL5'
  go_wp2_with fail
  refine HY.out.1.mono ?_
  rintro e w6 ⟨ev, L6, rfl, hE, hD6, hk6, hL6⟩
  rw [show DSt.sync ⟨[(nmOther, ⟨bKept, 0⟩)], 80000, 1, -1, false⟩ nmOther = (dKept, .ok) by rfl] at hE hD6
  obtain rfl : ev = .nilIface := hE
  have hk16 := HY.out.2.1.step hk6 (fun x hx => .inr (HY.out.2.2 x hx))
  have hL6' : ∀ x ∈ L6, w1.heap.size ≤ x := fun x hx => (hL6 x hx).elim (HY.out.2.2 x) (fun h => Nat.le_trans HY.out.2.1.size h)
  have HO := Lib.hid (And.intro (wopen hD6 (by decide) wf_kept rfl) (And.intro hk16 hL6'))
  clear hD6 hk6 hL6 hk16 hL6'
  go_wp2_with fail
  refine HO.out.1.mono ?_
  intro e w7 hp
  obtain ⟨wb, L7, E7, d7, s7, z7, rfl, hs, hS⟩ := hp.sure HO.out.2.1 HO.out.2.2 rfl (n := 2) (Nat.le_refl _)
  obtain rfl : s7 = Ws.nil := by simpa using hs
  have H7 := Lib.hid hS
  clear hp hs hS
  have hl12 : l.length ≤ 12 := by
    have := HS.out.1
    simp only [small, Bool.and_eq_true, decide_eq_true_eq] at this
    omega
  have HA := Lib.hid (H0.out.2.2.2.1.keep0 H7.out.keeps)
  go_wp2_with (at_builtin; refine wpList_append_by _ rfl _ _ 22 22 rfl w7.heap.size 65 iE zE 5 48 Tryz.underlying22 hiE hzE hsE hbE hcE none 0 0 [] rfl (World.ownsRow_nil _ _ _ _) _ rfl l.length _ (HA.out.src Tryz.underlying22) (by unfold maxLen; omega) (by omega) (Nat.le_refl _) ?_; intro a8 c8 w8 hO8 hk8 hb8)
  rw [Nat.zero_add, List.nil_append] at hO8
  try simp only [Nat.zero_add]
  have hR8 : Re w8 a8 c8 l := sl_of_ownW hO8 (ents_one _)
  have hS8 := H7.out.keep0 hk8
  have hof8 : ∀ ad, a8 = some ad → ad.block ∉ wb :: (L7 ++ E7) := fun ad e hx => by
    have h1 := (ownsRow_lt hO8 ad.block (by rw [e]; simp)).1
    have h2 := H7.out.lt _ hx
    omega
  have H8 := Lib.hid (And.intro hS8 (And.intro hR8 hof8))
  clear hO8 hS8 hR8 hof8
  by_cases hbad : ∃ x ∈ l, entOk x = false
  · have HB := Lib.hid (wappend_bad a8 c8 l H8.out.2.1 he (by omega) hbad (w := w8) (wb := wb))
    go_wp2_with fail
    refine HB.out.mono ?_
    rintro e w9 ⟨ev, rfl, hE, hk9⟩
    obtain ⟨tt, tv, rfl⟩ := hE.bad (by decide)
    have hk09 : Keeps [] w w9 := (H0.out.2.2.1.trans H8.out.1.keeps).trans hk9
    have HC := Lib.hid (And.intro (classP_any (hk09.cellSome HG.out (by simp)) hE) hk09)
    clear hE hk9 hk09
    go_wp2_with fail
    refine HC.out.1.mono ?_
    rintro e w10 ⟨rfl, hk10⟩
    have HF := Lib.hid (HC.out.2.trans hk10)
    clear hk10
    go_wp2_with fail
    go_ret
    exact ⟨by simp, HF.out⟩
  have hok : ∀ x ∈ l, x.May := fun x hx => by
    refine ⟨?_, he x hx⟩
    cases hq : entOk x with
    | true => rfl
    | false => exact absurd ⟨x, hx, hq⟩ hbad
  have hes : entSum l ≤ 12024 := by
    have h1 : ∀ l : List Ent, entSum l = sumE l + 2 * l.length := by
      intro l
      induction l with
      | nil => rfl
      | cons x l ih => simp only [entSum, sumE, List.map_cons, List.sum_cons, List.length_cons] at ih ⊢; omega
    have := HS.out.2
    rw [h1]
    omega
  have hA := wappend_do (may' := Ws.nil :: (List.range (l.length + 1)).map fun j => { Ws.nil with es := Ws.nil.es ++ l.take j }) H8.out.1.wal H8.out.1.disk okO_kept H8.out.1.wj (by have := H8.out.1.count; omega) (by simp [entSum]) a8 c8 l H8.out.2.1 hok (by omega) (fun ad e _ => H8.out.2.2 ad e) (fun x hx => by simp at hx; subst hx; exact .head _) (fun j hj => .tail _ (List.mem_map.2 ⟨j, by simp; omega, rfl⟩))
  have HA2 := Lib.hid hA
  clear hA
  go_wp2_with fail
  refine HA2.out.mono ?_
  intro e w9 hp
  obtain ⟨L9, E9, d9, z9, rfl, hS9, hst9⟩ := H8.out.1.did2 hp
  obtain ⟨may9, hm9⟩ : ∃ m, m = Ws.nil :: (List.range (l.length + 1)).map fun j => { Ws.nil with es := Ws.nil.es ++ l.take j } := ⟨_, rfl⟩
  rw [← hm9] at hS9
  have hHd := wsethard_do (may' := ⟨t, v, 0, 0, l⟩ :: may9) hS9.wal hS9.disk okO_kept hS9.wj (by have := hS9.count; omega) (by show entSum ([] ++ l) ≤ _; rw [List.nil_append]; omega) t v ⟨ht, by omega, by omega⟩ (fun x hx => .tail _ hx) (.head _)
  have HH := Lib.hid (And.intro hHd hS9)
  have hXH := (H0.out.1.keep hS9.keeps (by simp)).cell
  clear hp hS9 hst9 hHd hm9
  go_wp2_with fail
  refine HH.out.1.mono ?_
  intro e w10 hp
  obtain ⟨L10, E10, d10, z10, rfl, hS10, hst10⟩ := HH.out.2.did2 hp
  have HY2 := Lib.hid (And.intro (wsync_do hS10.wal hS10.disk hS10.wj (by have := hS10.count; omega)) hS10)
  clear hp hS10 hst10 hXH
  go_wp2_with fail
  refine HY2.out.1.mono ?_
  intro e w11 hp
  obtain ⟨L11, E11, d11, rfl, hS11, hst11⟩ := HY2.out.2.synced2 hp
  have H11 := Lib.hid hS11
  clear hp hS11 hst11
  go_wp2_with fail
  go_loopw [12] (fun ix wr => ∃ i : Nat, ix = .int .i64 (i : Int) ∧ i ≤ hs.length ∧ HaltAt w1 wr db i ⟨t, v, 0, 0, l⟩) (fun ix _ => hs.length - (intOf ix).toNat)
  case atStart => exact ⟨0, rfl, Nat.zero_le _, L11, d11, H11.out.disk, H11.out.wj.wf, H11.out.wj.on, by have := H11.out.count; omega, H11.out.keeps, fun x hx => H11.out.low x (.tail _ (List.mem_append.2 (.inl hx)))⟩
  case round =>
    obtain ⟨i, rfl, hi, Lr, dr, hDr, hFr, hof, hct, hkr, hLr⟩ := hrel
    have HR1 := Lib.hid (And.intro hDr (And.intro hFr (And.intro hof (And.intro hct (And.intro hkr hLr)))))
    clear hDr hFr hof hct hkr hLr
    have hcK := (H0.out.2.1.keep HR1.out.2.2.2.2.1 (by simp)).cell
    rcases (by omega : i < hs.length ∨ ¬ i < hs.length) with hil | hil
    · have m1 : (i : Int) < (hs.length : Int) := by omega
      have s1 : IntKind.i64.wrap ((i : Int) + 1) = i + 1 := IntWalk.i64_in _ (by omega)
      have hH1 := H0.out.2.2.2.2.1.keep0 HR1.out.2.2.2.2.1
      obtain ⟨x8, hx8⟩ : ∃ x8 : UInt8, x8 = hs[i] := ⟨_, rfl⟩
      obtain ⟨ab, ao, rfl⟩ := hH1.at (by have := hH1.cap; omega)
      have hcl : wr.cell? ⟨ab, ao + i, none⟩ = some (.int .u8 (x8.toNat : Nat)) := by
        have := hH1.cell _ rfl i (.int .u8 (hs[i].toNat : Nat)) (bys_at hil)
        rw [hx8]
        exact this
      obtain ⟨x, hxn⟩ : ∃ x : Nat, x = x8.toNat := ⟨_, rfl⟩
      rw [← hxn] at hcl
      have hx256 : x < 256 := by rw [hxn]; exact x8.toNat_lt
      obtain ⟨k, hk⟩ : ∃ k, k = x % 10 := ⟨_, rfl⟩
      have r1 : (x : Int).tmod 10 = (k : Int) := by rw [Int.tmod_eq_emod_of_nonneg (by omega)]; omega
      have k10 : k < 10 := by omega
      have k1 : IntKind.u8.wrap (k : Int) = k := by simp only [IntKind.wrap_u8]; omega
      have k2 : IntKind.i64.wrap (k : Int) = k := IntWalk.i64_in _ (by omega)
      have HD2 := Lib.hid (dhalt HR1.out.1 (k : Int) (by omega))
      clear hH1 hx8 hxn hk
      go_wp2_with fail
      refine HD2.out.mono ?_
      rintro e w13 ⟨rfl, hD13, hk13⟩
      have hk113 := HR1.out.2.2.2.2.1.step hk13 (fun x hx => .inr (HR1.out.2.2.2.2.2 x hx))
      have HO3 := Lib.hid (And.intro (wopen hD13 (by show dr.count < _; have := HR1.out.2.2.2.1; omega) (HR1.out.2.1.halt _) HR1.out.2.2.1) hk113)
      clear hD13 hk13 hk113 hcl hcK
      go_wp2_with fail
      refine HO3.out.1.mono ?_
      intro e w14 hp
      obtain ⟨pv, ev, L14, d14, rfl, hD14, hF14, hk14, hL14, hc14⟩ := hp.loud
      have hk114 := HO3.out.2.step hk14 (fun x hx => .inr (HR1.out.2.2.2.2.2 x hx))
      have hLL : ∀ x ∈ L14, w1.heap.size ≤ x := fun x hx => (hL14 x hx).elim (HR1.out.2.2.2.2.2 x) (fun h => Nat.le_trans HO3.out.2.size h)
      have hcK := (H0.out.2.1.keep hk114 (by simp)).cell
      have hCr := dcrash hD14 keep (H0.out.2.2.2.2.2.1.keep0 hk114) (fun ad e hne hx => by
        have h1 := H0.out.2.2.2.2.2.2 ad e hne
        have h2 := hLL _ hx
        have h3 := H0.out.2.2.1.size
        omega)
      have HC := Lib.hid (And.intro hCr (And.intro hF14 (And.intro hk114 (And.intro hLL hc14))))
      clear hp hD14 hF14 hk14 hL14 hc14 hk114 hLL hCr
      go_wp2_with fail
      refine HC.out.1.mono ?_
      rintro e w15 ⟨rfl, hD15, hk15⟩
      have H15 := Lib.hid (And.intro hD15 hk15)
      clear hD15 hk15 hcK
      go_wp2_with fail
      go_roundw
      case rel =>
        refine ⟨i + 1, by simp, by omega, L14, _, H15.out.1, crash_wf okO_kept HC.out.2.1 keep, rfl, ?_, HC.out.2.2.1.step H15.out.2 (fun x hx => .inr (HC.out.2.2.2.1 x hx)), HC.out.2.2.2.1⟩
        have h1 := HC.out.2.2.2.2
        have h2 := HR1.out.2.2.2.1
        show d14.count ≤ _
        have h3 : d14.count ≤ dr.count + 3 := h1
        omega
      case measure => simp [intOf]; omega
    have n5 : ¬ ((i : Int) < (hs.length : Int)) := by omega
    have hCr := dcrash HR1.out.1 keep (H0.out.2.2.2.2.2.1.keep0 HR1.out.2.2.2.2.1) (fun ad e hne hx => by
      have h1 := H0.out.2.2.2.2.2.2 ad e hne
      have h2 := HR1.out.2.2.2.2.2 _ hx
      have h3 := H0.out.2.2.1.size
      omega)
    have HC := Lib.hid hCr
    clear hCr
    go_wp2_with fail
    refine HC.out.mono ?_
    rintro e w15 ⟨rfl, hD15, hk15⟩
    have hk115 := HR1.out.2.2.2.2.1.step hk15 (fun x hx => .inr (HR1.out.2.2.2.2.2 x hx))
    have HO4 := Lib.hid (And.intro (wopen hD15 (by show dr.count < _; have := HR1.out.2.2.2.1; omega) (crash_wf okO_kept HR1.out.2.1 keep) rfl) hk115)
    clear hD15 hk15 hk115 hcK
    go_wp2_with fail
    refine HO4.out.1.mono ?_
    intro e w16 hp
    obtain ⟨wb2, L16, E16, d16, s16, z16, rfl, hs16, hS16⟩ := hp.sure HO4.out.2 HR1.out.2.2.2.2.2 rfl (n := 300) (by show dr.count ≤ _; have := HR1.out.2.2.2.1; omega)
    obtain rfl : s16 = ⟨t, v, 0, 0, l⟩ := by simpa using hs16
    have hrd := dread hS16.disk nmOther
    rw [read_other hS16.wj] at hrd
    have H16 := Lib.hid (And.intro hrd hS16)
    clear hp hs16 hS16 hrd
    go_wp2_with fail
    refine H16.out.1.mono ?_
    rintro e w17 ⟨bo, bc, ev, rfl, hE, hO17, hk17⟩
    obtain rfl : ev = .nilIface := hE
    have hS17 := H16.out.2.keep0 hk17
    have H17 := Lib.hid (And.intro hS17 (And.intro hO17.rb (H0.out.1.keep hS17.keeps (by simp))))
    clear hS17 hO17 hk17
    go_upto_region 25 with (fail)
    have hR0 : ∀ W : World, Keeps [] w17 W → ∀ q ∈ [((9 : Nat), fun w0 : World => Blk w0 hb 25 #[.int .u64 (t : Nat), .int .i64 v]), ((24 : Nat), fun w0 : World => Rb w0 bo bc bKept)], q.2 W := fun W hW q hq => by
      simp only [List.mem_cons, List.not_mem_nil, or_false] at hq
      rcases hq with rfl | rfl
      · exact H17.out.2.2.keep hW (by simp)
      · exact H17.out.2.1.keep0 hW
    have HR0 := Lib.hid hR0
    have hkd := (Keeps.refl [] w17).drew
    have hSw := HR0.out _ hkd
    clear hR0
    refine startU [((9 : Nat), fun w0 : World => Blk w0 hb 25 #[.int .u64 (t : Nat), .int .i64 v]), ((24 : Nat), fun w0 : World => Rb w0 bo bc bKept)] (by kernel_rfl) ?_
    generalize World.drew w17 = w18 at *
    refine takeU (i := 0) (v := ?_) rfl (by kernel_rfl) (fun _ _ _ h => h) (Or.inl ⟨by rfl, fun w0 hw0 => ?_⟩) (fun p hp _ => hSw p hp) ?_
    rotate_left
    · simp [Reads] at hw0
      go_simp
      try with_reducible rfl
    try go_simp
    refine takeU (i := 1) (v := ?_) rfl (by kernel_rfl) (fun _ _ _ h => h) (Or.inl ⟨by rfl, fun w0 hw0 => ?_⟩) (fun p hp _ => hSw p hp) ?_
    rotate_left
    · simp [Reads] at hw0
      go_simp
      try with_reducible rfl
    try go_simp
    refine takeU (i := 2) (v := ?_) rfl (by kernel_rfl) (fun _ _ _ h => h) (Or.inl ⟨by rfl, fun w0 hw0 => ?_⟩) (fun p hp _ => hSw p hp) ?_
    rotate_left
    · simp [Reads] at hw0
      go_simp
      try with_reducible rfl
    try go_simp
    refine takeU (i := 3) (v := ?_) rfl (by kernel_rfl) (fun _ _ _ h => h) (Or.inl ⟨by rfl, fun w0 hw0 => ?_⟩) (fun p hp _ => hSw p hp) ?_
    rotate_left
    · simp [Reads] at hw0
      go_simp
      try with_reducible rfl
    try go_simp
    refine takeU (i := 4) (v := ?_) rfl (by kernel_rfl) (fun _ _ _ h => h) (Or.inl ⟨by rfl, fun w0 hw0 => ?_⟩) (fun p hp _ => hSw p hp) ?_
    rotate_left
    · simp [Reads] at hw0
      go_simp
      try with_reducible rfl
    try go_simp
    refine takeU (i := 5) (v := ?_) rfl (by kernel_rfl) (fun _ _ _ h => h) (Or.inl ⟨by rfl, fun w0 hw0 => ?_⟩) (fun p hp _ => hSw p hp) ?_
    rotate_left
    · simp [Reads] at hw0
      go_simp
      try with_reducible rfl
    try go_simp
    refine takeU (i := 6) (v := ?_) rfl (by kernel_rfl) (fun _ _ _ h => h) (Or.inl ⟨by rfl, fun w0 hw0 => ?_⟩) (fun p hp _ => hSw p hp) ?_
    rotate_left
    · simp [Reads] at hw0
      go_simp
      try with_reducible rfl
    try go_simp
    refine takeU (i := 7) (v := ?_) rfl (by kernel_rfl) (fun _ _ _ h => h) (Or.inl ⟨by rfl, fun w0 hw0 => ?_⟩) (fun p hp _ => hSw p hp) ?_
    rotate_left
    · simp [Reads] at hw0
      go_simp
      try with_reducible rfl
    try go_simp
    refine takeU (i := 9) (v := .agg #[.int .u64 (t : Nat), .int .i64 v]) rfl (by kernel_rfl) (fun _ _ _ h => h) (Or.inl ⟨by rfl, fun w0 hw0 => ?_⟩) (fun p hp _ => hSw p hp) ?_
    · simp [Reads] at hw0
      exact load_yieldsW 25 (.tmp 5) rfl hb 0 2 rfl 25 _ _ hw0 Tryz.underlying25 rfl Tryz.sizeHard (by simp) _ rfl
    try go_simp
    clear hSw
    have HHd := Lib.hid (whard (H17.out.1.wal.keep0 hkd))
    refine oneU (i := 8) rfl (by kernel_rfl) (fun K hK => ?_)
    rw [if_pos (show Region.wanted _ _ = true from rfl)]
    go_wp2_with fail
    refine HHd.out.mono ?_
    rintro e w19 ⟨rfl, hk19⟩
    try dsimp only
    have hk179 := hkd.trans hk19
    clear hk19 hkd
    refine hK _ _ (fun q hq _ _ => HR0.out _ hk179 q hq) ?_
    clear hK K
    try go_simp
    have hSw := HR0.out _ hk179
    refine takeU (i := 10) (v := ?_) rfl (by kernel_rfl) (fun _ _ _ h => h) (Or.inl ⟨by rfl, fun w0 hw0 => ?_⟩) (fun p hp _ => hSw p hp) ?_
    rotate_left
    · simp [Reads] at hw0
      go_simp
      try with_reducible rfl
    try go_simp
    refine takeU (i := 11) (v := ?_) rfl (by kernel_rfl) (fun _ _ _ h => h) (Or.inl ⟨by rfl, fun w0 hw0 => ?_⟩) (fun p hp _ => hSw p hp) ?_
    rotate_left
    · simp [Reads] at hw0
      go_simp
      try with_reducible rfl
    try go_simp
    refine takeU (i := 12) (v := ?_) rfl (by kernel_rfl) (fun _ _ _ h => h) (Or.inl ⟨by rfl, fun w0 hw0 => ?_⟩) (fun p hp _ => hSw p hp) ?_
    rotate_left
    · simp [Reads] at hw0
      go_simp
      try with_reducible rfl
    try go_simp
    refine takeU (i := 13) (v := ?_) rfl (by kernel_rfl) (fun _ _ _ h => h) (Or.inl ⟨by rfl, fun w0 hw0 => ?_⟩) (fun p hp _ => hSw p hp) ?_
    rotate_left
    · simp [Reads] at hw0
      go_simp
      try with_reducible rfl
    try go_simp
    refine takeU (i := 15) (v := ?_) rfl (by kernel_rfl) (fun _ _ _ h => h) (Or.inl ⟨by rfl, fun w0 hw0 => ?_⟩) (fun p hp _ => hSw p hp) ?_
    rotate_left
    · simp [Reads] at hw0
      go_simp
      try with_reducible rfl
    try go_simp
    clear hSw
    have HEn := Lib.hid (And.intro (wentries (H17.out.1.wal.keep0 hk179) (by show l.length ≤ _; omega)) hk179)
    clear hk179
    refine oneU (i := 14) rfl (by kernel_rfl) (fun K hK => ?_)
    rw [if_pos (show Region.wanted _ _ = true from rfl)]
    go_wp2_with fail
    refine HEn.out.1.mono ?_
    rintro e w20 ⟨b20, c20, rfl, hO20, hk20⟩
    try dsimp only
    have hR20 : Re w20 b20 c20 l := sl_of_ownW hO20 (ents_one _)
    have hk120 := HEn.out.2.trans hk20
    have HM := Lib.hid (And.intro (ents_same b20 la c20 lc l w20 hR20 (H0.out.2.2.2.1.keep0 (H17.out.1.keeps.trans hk120))) hk120)
    refine hK _ _ (fun q hq _ _ => HR0.out _ hk120 q hq) ?_
    clear hK K hO20 hR20 hk20 hk120
    try go_simp
    refine oneU (i := 16) rfl (by kernel_rfl) (fun K hK => ?_)
    rw [if_pos (show Region.wanted _ _ = true from rfl)]
    go_wp2_with fail
    refine HM.out.1.mono ?_
    rintro e w21 ⟨rfl, hk21⟩
    try dsimp only
    have hk121 := HM.out.2.trans hk21
    refine hK _ _ (fun q hq _ _ => HR0.out _ hk121 q hq) ?_
    clear hK K hk21
    try go_simp
    have hSw := HR0.out _ hk121
    have HF := Lib.hid ((H0.out.2.2.1.trans H17.out.1.keeps).trans hk121)
    clear hk121
    refine takeU (i := 17) (v := ?_) rfl (by kernel_rfl) (fun _ _ _ h => h) (Or.inl ⟨by rfl, fun w0 hw0 => ?_⟩) (fun p hp _ => hSw p hp) ?_
    rotate_left
    · simp [Reads] at hw0
      go_simp
      try with_reducible rfl
    try go_simp
    refine takeU (i := 18) (v := ?_) rfl (by kernel_rfl) (fun _ _ _ h => h) (Or.inl ⟨by rfl, fun w0 hw0 => ?_⟩) (fun p hp _ => hSw p hp) ?_
    rotate_left
    · simp [Reads] at hw0
      go_simp
      try with_reducible rfl
    try go_simp
    refine takeU (i := 19) (v := ?_) rfl (by kernel_rfl) (fun _ _ _ h => h) (Or.inl ⟨by rfl, fun w0 hw0 => ?_⟩) (fun p hp _ => hSw p hp) ?_
    rotate_left
    · simp [Reads] at hw0
      go_simp
      try with_reducible rfl
    try go_simp
    refine takeU (i := 20) (v := ?_) rfl (by kernel_rfl) (fun _ _ _ h => h) (Or.inl ⟨by rfl, fun w0 hw0 => ?_⟩) (fun p hp _ => hSw p hp) ?_
    rotate_left
    · simp [Reads] at hw0
      go_simp
      try with_reducible rfl
    try go_simp
    refine takeU (i := 21) (v := ?_) rfl (by kernel_rfl) (fun _ _ _ h => h) (Or.inl ⟨by rfl, fun w0 hw0 => ?_⟩) (fun p hp _ => hSw p hp) ?_
    rotate_left
    · simp [Reads] at hw0
      go_simp
      try with_reducible rfl
    try go_simp
    refine takeU (i := 22) (v := ?_) rfl (by kernel_rfl) (fun _ _ _ h => h) (Or.inl ⟨by rfl, fun w0 hw0 => ?_⟩) (fun p hp _ => hSw p hp) ?_
    rotate_left
    · simp [Reads] at hw0
      go_simp
      try with_reducible rfl
    try go_simp
    refine takeU (i := 23) (v := ?_) rfl (by kernel_rfl) (fun _ _ _ h => h) (Or.inl ⟨by rfl, fun w0 hw0 => ?_⟩) (fun p hp _ => hSw p hp) ?_
    rotate_left
    · simp [Reads] at hw0
      go_simp
      try with_reducible rfl
    try go_simp
    refine takeU (i := 24) (v := .string ⟨#[107, 101, 112, 116]⟩) rfl (by kernel_rfl) (fun _ _ _ h => h) (Or.inl ⟨by rfl, fun w0 hw0 => ?_⟩) (fun p hp _ => hSw p hp) ?_
    · simp [Reads] at hw0
      have r1 : (convert 26 9 (.slice bo 4 bc)).run Tryz.prog w0 = .ok (.string ⟨#[107, 101, 112, 116]⟩) w0 := run_text hw0 26 9 Tryz.underlying26 Tryz.underlying9
      go_simp
    try go_simp
    refine takeU (i := 25) (v := ?_) rfl (by kernel_rfl) (fun _ _ _ h => h) (Or.inl ⟨by rfl, fun w0 hw0 => ?_⟩) (fun p hp _ => hSw p hp) ?_
    rotate_left
    · simp [Reads] at hw0
      go_simp
      try with_reducible rfl
    try go_simp
    refine takeU (i := 26) (v := ?_) rfl (by kernel_rfl) (fun _ _ _ h => h) (Or.inl ⟨by rfl, fun w0 hw0 => ?_⟩) (fun p hp _ => hSw p hp) ?_
    rotate_left
    · simp [Reads] at hw0
      go_simp
      try with_reducible rfl
    try go_simp
    refine takeU (i := 27) (v := ?_) rfl (by kernel_rfl) (fun _ _ _ h => h) (Or.inl ⟨by rfl, fun w0 hw0 => ?_⟩) (fun p hp _ => hSw p hp) ?_
    rotate_left
    · simp [Reads] at hw0
      go_simp
      try with_reducible rfl
    try go_simp
    refine doneU (by kernel_rfl) ?_
    go_wp2_with fail
    go_ret
    exact ⟨by simp, HF.out⟩
end Go.Proofs.YtfgmbjdeimallaaGreatDoor
