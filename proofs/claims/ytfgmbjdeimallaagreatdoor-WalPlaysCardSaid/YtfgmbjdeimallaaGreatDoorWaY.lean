/- The wal in memory; what it tells; its entries cut and dropped. -/
import Derived.Test.YtfgmbjdeimallaaGreatDoorWa0
import Derived.Test.YtfgmbjdeimallaaGreatDoorWa1
import Derived.Test.YtfgmbjdeimallaaGreatDoorWz
import Derived.Test.YtfgmbjdeimallaaGreatDoorWy
import Derived.Test.YtfgmbjdeimallaaGreatDoorLawZ
import Derived.Test.YtfgmbjdeimallaaGreatDoorDk1
import Derived.Test.YtfgmbjdeimallaaGreatDoorErrD

namespace Go.Proofs.YtfgmbjdeimallaaGreatDoor
open Go.RowKit Go.Lib

theorem Tryz.sizeWal : (Tryz.prog.info? 81).map (·.size) = some 7 := by kernel_rfl
theorem Tryz.sizeHard : (Tryz.prog.info? 25).map (·.size) = some 2 := by kernel_rfl
abbrev walCells (db : Nat) (s : Ws) (ao : Option Addr) (c : Nat) (size : Int) : Array Value := #[.pointer (some ⟨db, 0, none⟩), .int .u64 (s.term : Nat), .int .i64 s.vote, .int .u64 (s.base : Nat), .int .u64 (s.bt : Nat), .slice ao s.es.length c, .int .i64 size]
/-- the wal's block wb; E: the block of its entries -/
structure WalAt (w : World) (wb db : Nat) (s : Ws) (size : Int) (E : List Nat) : Prop where
  at_ : ∃ ao c, Blk w wb 81 (walCells db s ao c size) ∧ OwnO w 65 5 ao s.es.length c (ents s.es) ∧ E = blks ao

section
variable {w w' : World} {wb db : Nat} {s : Ws} {size : Int} {E L : List Nat}
theorem WalAt.lt (h : WalAt w wb db s size E) : wb < w.heap.size := by obtain ⟨ao, c, h1, _⟩ := h.at_; exact h1.lt
theorem WalAt.ltE (h : WalAt w wb db s size E) : ∀ x ∈ E, x < w.heap.size := by obtain ⟨ao, c, h1, h2, rfl⟩ := h.at_; exact h2.lt
theorem WalAt.keep (h : WalAt w wb db s size E) (hk : Keeps L w w') (h1 : wb ∉ L) (h2 : ∀ x ∈ E, x ∉ L) : WalAt w' wb db s size E := by
  obtain ⟨ao, c, h3, h4, rfl⟩ := h.at_
  exact ⟨ao, c, h3.keep hk h1, h4.keep hk h2, rfl⟩
theorem WalAt.keep0 (h : WalAt w wb db s size E) (hk : Keeps [] w w') : WalAt w' wb db s size E := h.keep hk (by simp) (by simp)
/-- a block of another type is none of the wal's -/
theorem WalAt.off (h : WalAt w wb db s size E) {b : Nat} {t : TypeId} {cs : Array Value} (hB : Blk w b t cs) (h1 : t ≠ 81) (h2 : t ≠ 65) : b ≠ wb ∧ b ∉ E := by
  obtain ⟨ao, c, h3, h4, rfl⟩ := h.at_
  exact ⟨hB.ne h3 h1, h4.off hB h2⟩
theorem ents_take (l : List Ent) (k : Nat) : (ents l).take (k * 5) = ents (l.take k) := by
  induction l generalizing k with
  | nil => simp [ents]
  | cons e l ih =>
    cases k with
    | zero => simp [ents]
    | succ k =>
      have h5 : (k + 1) * 5 = k * 5 + 1 + 1 + 1 + 1 + 1 := by omega
      have := ih k
      simp only [ents, List.map_cons, List.flatten_cons, List.take_succ_cons, h5] at this ⊢
      rw [← this]
      rfl
theorem ents_drop (l : List Ent) (k : Nat) : (ents l).drop (k * 5) = ents (l.drop k) := by
  induction l generalizing k with
  | nil => simp [ents]
  | cons e l ih =>
    cases k with
    | zero => simp
    | succ k =>
      have h5 : (k + 1) * 5 = k * 5 + 1 + 1 + 1 + 1 + 1 := by omega
      have := ih k
      simp only [ents, List.map_cons, List.flatten_cons, List.drop_succ_cons, h5] at this ⊢
      rw [← this]
      rfl

theorem wlast (h : WalAt w wb db s size E) (hs : s.last < 18446744073709551616) (hl : s.es.length ≤ 9223372036854775807) : Calls Tryz.prog 70 #[.pointer (some ⟨wb, 0, none⟩)] w fun e w' => e = .returned (.int .u64 (s.last : Nat)) ∧ Keeps [] w w' := by
  obtain ⟨ao, c, hB, hO, rfl⟩ := h.at_
  have hc := hB.cell
  unfold Ws.last at *
  have q1 : IntKind.u64.wrap (s.es.length : Int) = s.es.length := IntWalk.u64_in _ (by omega)
  have q2 : IntKind.u64.wrap ((s.base : Int) + (s.es.length : Int)) = ((s.base + s.es.length : Nat) : Int) := by rw [IntWalk.u64_in _ (by omega)]; omega
  go_enter Tryz.func70, Tryz.ntmps70
  go_wp2_with fail
  go_quiet (fail)
  go_wp2_with fail
  go_ret
  exact ⟨rfl, (Keeps.refl [] w).drewN _⟩
theorem wbase (h : WalAt w wb db s size E) : Calls Tryz.prog 48 #[.pointer (some ⟨wb, 0, none⟩)] w fun e w' => e = .returned (.tuple #[.int .u64 (s.base : Nat), .int .u64 (s.bt : Nat)]) ∧ Keeps [] w w' := by
  obtain ⟨ao, c, hB, hO, rfl⟩ := h.at_
  have hc := hB.cell
  go_enter Tryz.func48, Tryz.ntmps48
  go_wp2_with fail
  go_quiet (fail)
  go_wp2_with fail
  go_ret2
  exact ⟨rfl, (Keeps.refl [] w).drewN _⟩
theorem whard (h : WalAt w wb db s size E) : Calls Tryz.prog 18 #[.pointer (some ⟨wb, 0, none⟩)] w fun e w' => e = .returned (.agg #[.int .u64 (s.term : Nat), .int .i64 s.vote]) ∧ Keeps [] w w' := by
  obtain ⟨ao, c, hB, hO, rfl⟩ := h.at_
  have hX := Blk.fresh w 25 #[.int .u64 0, .int .i64 0]
  have hk := (Keeps.refl [] w).alloc (.cells #[.int .u64 0, .int .i64 0] 25)
  have hB2 := hB.alloc (.cells #[.int .u64 0, .int .i64 0] 25)
  have hc := hB2.cell
  go_enter Tryz.func18, Tryz.ntmps18
  go_wp2_with (refine wpList_store_agg rfl rfl 25 _ _ rfl w.heap.size 0 rfl _ rfl 25 _ hX Tryz.sizeHard (by simp) rfl _ rfl ?_; intro w6 hM6 hk6)
  refine bodyPost_ret (results_c rfl rfl hM6 Tryz.underlying25 rfl Tryz.sizeHard) rfl ⟨rfl, hk.step hk6 (fun x hx => .inr (by simp at hx; omega))⟩
set_option maxRecDepth 100000 in
set_option maxHeartbeats 2000000 in
theorem wentries (h : WalAt w wb db s size E) (hl : s.es.length ≤ 1000000) : Calls Tryz.prog 20 #[.pointer (some ⟨wb, 0, none⟩)] w fun e w' => ∃ bo d, e = .returned (.slice bo s.es.length d) ∧ w'.ownsRow w.heap.size 65 5 (.slice bo s.es.length d) s.es.length (ents s.es) ∧ Keeps [] w w' := by
  obtain ⟨i, z, hi, hz, hsz, hby, hzc⟩ := infoEn
  obtain ⟨ao, c, hB, hO, rfl⟩ := h.at_
  have hc := hB.cell
  have hS := (hO.sl (ents_one _)).src Tryz.underlying22
  go_enter Tryz.func20, Tryz.ntmps20
  go_wp2_with (at_builtin; refine wpList_append_by _ rfl _ _ 22 22 rfl w.heap.size 65 i z 5 48 Tryz.underlying22 hi hz hsz hby hzc none 0 0 [] rfl (World.ownsRow_nil _ _ _ _) _ rfl s.es.length _ hS (by unfold maxLen; omega) (by omega) (Nat.le_refl _) ?_; intro a5 c5 w5 hO5 hk5 hb5)
  rw [Nat.zero_add, List.nil_append] at hO5
  go_ret
  exact ⟨a5, c5, by simp, hO5, hk5⟩
end

section
variable {w : World} {wb db : Nat} {s : Ws} {size : Int} {E : List Nat}
set_option maxRecDepth 100000 in
set_option maxHeartbeats 2000000 in
theorem wcuts (h : WalAt w wb db s size E) (n : Nat) (h1 : s.base < n) (h2 : n ≤ s.last + 1) (hn : n < 18446744073709551616) (hl : s.es.length ≤ 9223372036854775807) : Calls Tryz.prog 46 #[.pointer (some ⟨wb, 0, none⟩), .int .u64 (n : Nat)] w fun e w' => e = .returned (.tuple #[]) ∧ WalAt w' wb db (s.ev (.cut n)) size E ∧ Keeps [wb] w w' := by
  obtain ⟨ao, c, hB, hO, rfl⟩ := h.at_
  unfold Ws.last at h2
  obtain ⟨k, hk⟩ : ∃ k, k = n - s.base - 1 := ⟨_, rfl⟩
  have hcp := hO.cap
  have hcm := hO.most
  unfold maxLen at hcm
  have q1 : IntKind.u64.wrap ((n : Int) - (s.base : Int)) = (n : Int) - s.base := IntWalk.u64_in _ (by omega)
  have q2 : IntKind.u64.wrap ((n : Int) - (s.base : Int) - 1) = (k : Int) := by rw [IntWalk.u64_in _ (by omega)]; omega
  have m1 : k ≤ s.es.length := by omega
  have m2 : k ≤ c := by omega
  have hO2 := hO.take (k := k) (c' := k) m1 (Nat.le_refl _) m2
  rw [ents_take] at hO2
  have fin : ∀ W : World, W = (w.drew.setCell ⟨wb, 5, none⟩ (.slice ao k k)) → WalAt W wb db (s.ev (.cut n)) size (blks ao) ∧ Keeps [wb] w W := by
    rintro W rfl
    have hks := (Keeps.refl [wb] w).drew.set (p := ⟨wb, 5, none⟩) (.inl (by simp)) (.slice ao k k)
    have hlen : (s.es.take k).length = k := by simp; omega
    refine ⟨⟨ao, k, ?_, ?_, rfl⟩, hks⟩
    · have := hB.drew.put 5 (.slice ao k k)
      refine this.eq ?_
      simp [walCells, Ws.ev, ← hk, hlen]
    · have := (hO2.keep hks (fun x hx => by simp; rintro rfl; exact hO.off hB (by decide) hx))
      rw [show (s.ev (.cut n)).es = s.es.take k by simp [Ws.ev, ← hk], hlen]
      exact this
  have FIN := Lib.hid fin
  have hc := hB.cell
  have hf := hB.free
  have hlt := hB.lt
  have m3 : (0 : Int) ≤ (k : Int) := by omega
  have m4 : (k : Int) ≤ (c : Int) := by omega
  clear hO2 hk fin h hO
  go_enter Tryz.func46, Tryz.ntmps46
  go_wp2_with fail
  refine wp_region_still_tail 22 (by kernel_rfl) (by kernel_rfl) ?_
  change wpStill _ _ (World.drew _) _ _ _
  simp only [List.take_succ_cons, List.take_zero, List.drop_succ_cons, List.drop_zero]
  repeat still_step
  refine wpStill_nil ?_
  change wpList _ _ _ _ _ (World.drew _)
  go_wp2_with fail
  go_end0
  exact ⟨rfl, FIN.out _ rfl⟩
end
end Go.Proofs.YtfgmbjdeimallaaGreatDoor
/- The wal's frames: numbers, a hard state, an entry as bytes; frames one behind the other; torn ends. -/

namespace Go.Proofs.YtfgmbjdeimallaaGreatDoor
open Go.RowKit Go.Lib

def numB (k : UInt8) (l : List Nat) : List UInt8 := k :: (l.map uvarint).flatten
theorem numB_succ (k : UInt8) {l : List Nat} {j n : Nat} (h : l[j]? = some n) : numB k (l.take (j + 1)) = numB k (l.take j) ++ uvarint n := by
  obtain ⟨hj, rfl⟩ := List.getElem?_eq_some_iff.1 h
  have h : l.take (j + 1) = l.take j ++ [l[j]] := by rw [List.take_add_one, List.getElem?_eq_getElem hj]; rfl
  unfold numB
  rw [h, List.map_append, List.flatten_append]
  simp
theorem numB_most (k : UInt8) : ∀ (l : List Nat), (∀ n ∈ l, n < 18446744073709551616) → (numB k l).length ≤ 1 + 10 * l.length
  | [], _ => by simp [numB]
  | n :: l, h => by
    have := numB_most k l (fun x hx => h x (.tail _ hx))
    have := uvarint_length64 (h n (.head _))
    simp [numB] at *
    omega
theorem own_lit0 (w : World) (l : List UInt8) (N : Nat) (hN : N ≤ w.heap.size) (hl : l.length ≤ 1000 := by simp) : Own (w.alloc (.cells (bys l).toArray 5)) N (some ⟨w.heap.size, 0, none⟩) l.length l := by
  refine ⟨by simp, .inr ⟨w.heap.size, l.length, (bys l).toArray, rfl, hN, heap_alloc_new w _, Nat.le_refl _, by unfold maxLen; omega, by simp, by simp; exact List.take_of_length_le (by simp)⟩⟩

set_option maxRecDepth 100000 in
set_option maxHeartbeats 4000000 in
theorem numbers_any (k : UInt8) (lo : Option Addr) (lc : Nat) (l : List Nat) (w : World) (h : Sl w 1 lo l.length lc (l.map fun n => Value.int .u64 (n : Nat))) (hn : ∀ n ∈ l, n < 18446744073709551616) (hl : l.length ≤ 10) :
    Calls Tryz.prog 45 #[.int .u8 (k.toNat : Nat), .slice lo l.length lc] w fun e w' => ∃ ao d, e = .returned (.slice ao (numB k l).length d) ∧ Own w' w.heap.size ao d (numB k l) ∧ Keeps [] w w' := by
  obtain ⟨i, z, hi, hz, hsz, hby, hzc⟩ := infoB
  have hO0 := own_lit0 w [k] w.heap.size (Nat.le_refl _)
  have hk0 := (Keeps.refl [] w).alloc (.cells (bys [k]).toArray 5)
  have hcp := h.cap
  have H := Lib.hid h
  have HN := Lib.hid hn
  clear h hn
  go_enter Tryz.func45, Tryz.ntmps45
  go_wp2_with fail
  go_loopw [5, 12] (fun v s wr => ∃ (j : Nat) (ao : Option Addr) (c : Nat), v = .slice ao (numB k (l.take j)).length c ∧ s = .int .i64 (j : Int) ∧ j ≤ l.length ∧ Own wr w.heap.size ao c (numB k (l.take j)) ∧ Keeps [] w wr) (fun _ s _ => l.length - (intOf s).toNat)
  case atStart => exact ⟨0, _, 1, rfl, rfl, Nat.zero_le _, hO0, hk0⟩
  case round =>
    obtain ⟨j, ao, c, rfl, rfl, hj, hO, hk⟩ := hrel
    have hmost := numB_most k (l.take j) (fun n hx => HN.out n (List.mem_of_mem_take hx))
    simp only [List.length_take] at hmost
    by_cases hjl : j < l.length
    rotate_left
    · have n1 : ¬ ((j : Int) < (l.length : Int)) := by omega
      obtain rfl : j = l.length := by omega
      rw [List.take_length] at hO ⊢
      clear hO0 hk0
      go_wp2_with fail
      go_ret
      exact ⟨ao, c, rfl, hO, hk⟩
    have n1 : (j : Int) < (l.length : Int) := by omega
    have s1 : IntKind.i64.wrap ((j : Int) + 1) = j + 1 := IntWalk.i64_in _ (by omega)
    have hv := List.getElem?_eq_getElem hjl
    have hnl := HN.out _ (List.getElem_mem hjl)
    generalize l[j] = n at hv hnl
    obtain ⟨b, o, rfl⟩ := H.out.at (by omega)
    have hcj : wr.cell? ⟨b, o + j, none⟩ = some (.int .u64 (n : Nat)) := (H.out.keep0 hk).cell _ rfl j _ (by rw [List.getElem?_map, hv]; rfl)
    have hS := numB_succ k hv
    have HV := Lib.hid (And.intro hv hS)
    clear hv hS hO0 hk0
    go_wp2_with fail
    refine (putUint n wr hnl).mono ?_
    rintro e w1 ⟨ao1, c1, rfl, hO1, hk1⟩
    have hul := uvarint_length64 hnl
    have hO' := hO.keep0 hk1
    clear hcj
    go_wp2_with (at_builtin; refine wpList_append_by _ rfl _ _ 26 26 rfl (w.heap.size) 5 i z 1 1 Tryz.underlying26 hi hz hsz hby hzc (ao) _ (c) _ rfl hO' _ rfl (uvarint n).length _ (hO1.rb.src Tryz.underlying26) (by unfold maxLen; omega) (by omega) (by have := hk.size; have := hk1.size; omega) ?_; intro ao' c' w' hO2 hk' hb')
    have hO3 := Own.of hO2 (bys_append _ _).symm
    rw [← HV.out.2] at hO3
    have hlen : (numB k (l.take j)).length + (uvarint n).length = (numB k (l.take (j + 1))).length := by rw [HV.out.2]; simp
    have HLN := Lib.hid hlen
    clear hlen hO2
    go_roundw
    case rel => exact ⟨j + 1, ao', c', by rw [HLN.out], by simp, by omega, hO3, (hk.trans hk1).own hk' hO'⟩
    case measure => simp [intOf]; omega

theorem sl_u64s {w : World} {b : Nat} {l : List Nat} (h : Blk w b 23 (l.map fun n => Value.int .u64 (n : Nat)).toArray) (hl : l.length ≤ 10) : Sl w 1 (some ⟨b, 0, none⟩) l.length l.length (l.map fun n => Value.int .u64 (n : Nat)) := by
  have := Sl.of_blk (n := l.length) (sz := 1) h (by simp) (by unfold maxLen; omega) (by
    intro u hu
    simp at hu
    obtain ⟨x, _, rfl⟩ := hu
    rfl)
  simpa using this

theorem nums2 (b t m : Nat) (w : World) (h : Blk w (b + 1) 23 #[.int .u64 (t : Nat), .int .u64 (m : Nat)]) : Sl w 1 (some ⟨b + 1, 0, none⟩) 2 2 ([t, m].map fun n => Value.int .u64 (n : Nat)) := sl_u64s (l := [t, m]) h (by simp)
theorem numbers2 (k : UInt8) (b t m : Nat) (w : World) (h : Sl w 1 (some ⟨b + 1, 0, none⟩) 2 2 ([t, m].map fun n => Value.int .u64 (n : Nat))) (ht : t < 18446744073709551616) (hm : m < 18446744073709551616) :
    Calls Tryz.prog 45 #[.int .u8 (k.toNat : Nat), .slice (some ⟨b + 1, 0, none⟩) 2 2] w fun e w' => ∃ ao d, e = .returned (.slice ao (numB k [t, m]).length d) ∧ Own w' w.heap.size ao d (numB k [t, m]) ∧ Keeps [] w w' :=
  numbers_any k _ 2 [t, m] w h (by simp [ht, hm]) (by simp)

set_option maxRecDepth 100000 in
set_option maxHeartbeats 4000000 in
theorem hardBytes_any (t : Nat) (v : Int) (w : World) (ht : t < 18446744073709551616) (hv : -1 ≤ v ∧ v ≤ 1000) :
    Calls Tryz.prog 40 #[.agg #[.int .u64 (t : Nat), .int .i64 v]] w fun e w' => ∃ ao d, e = .returned (.slice ao (Ev.hard t v).bytes.length d) ∧ Own w' w.heap.size ao d (Ev.hard t v).bytes ∧ Keeps [] w w' := by
  obtain ⟨m, hm⟩ : ∃ m, m = (v + 1).toNat := ⟨_, rfl⟩
  have q1 : IntKind.i64.wrap (v + 1) = v + 1 := IntWalk.i64_in _ (by omega)
  have q2 : IntKind.u64.wrap (v + 1) = (m : Int) := by rw [IntWalk.u64_in _ (by omega)]; omega
  have hm2 : m < 18446744073709551616 := by omega
  have hb : (Ev.hard t v).bytes = numB 1 [t, m] := by simp [Ev.bytes, numB, hm]
  rw [hb]
  clear hm hb
  have hX := Blk.fresh w 25 #[.int .u64 (t : Nat), .int .i64 v]
  have hkX := (Keeps.refl [] w).alloc (.cells #[.int .u64 (t : Nat), .int .i64 v] 25)
  have hkY := hkX.alloc (.cells #[.int .u64 (t : Nat), .int .u64 (m : Nat)] 23)
  have hY := nums2 w.heap.size t m _ (Blk.fresh_at (w.alloc (.cells #[.int .u64 (t : Nat), .int .i64 v] 25)) 23 #[.int .u64 (t : Nat), .int .u64 (m : Nat)] (n := w.heap.size + 1) (by simp))
  have hN := numbers2 1 w.heap.size t m _ hY ht hm2
  have HNN := Lib.hid (And.intro hN hkY)
  have hcX := hX.cell
  clear hN hkY hY hX
  go_enter Tryz.func40, Tryz.ntmps40
  go_wp2_with fail
  refine HNN.out.1.mono ?_
  rintro e w2 ⟨ao, d, rfl, hO, hk⟩
  clear hcX
  go_wp2_with fail
  go_ret
  exact ⟨ao, d, rfl, hO.older (by simp; omega), HNN.out.2.trans hk⟩

theorem torn_nil (w : World) : Calls Tryz.prog 34 #[.nilIface] w fun e w' => e = .returned (.bool false) ∧ w' = w := by
  go_enter Tryz.func34, Tryz.ntmps34
  go_wp2_with fail
  refine (is_nil 22 w).mono ?_
  rintro e w1 ⟨rfl, hw⟩
  obtain rfl := hw
  go_wp2_with fail
  refine (is_nil 21 w).mono ?_
  rintro e w1 ⟨rfl, hw⟩
  obtain rfl := hw
  go_wp2_with fail
  go_ret
  exact ⟨rfl, rfl⟩
theorem torn_short (ev : Value) (w : World) (h : ErrF w ev 22) : Calls Tryz.prog 34 #[ev] w fun e w' => e = .returned (.bool true) ∧ w' = w := by
  rcases h with ⟨_, h0⟩ | ⟨_, g, p, rfl, hB⟩
  · exact absurd h0 (by decide)
  have hI := is_withinD g 22 22 w (hB.cell 1)
  rw [decide_eq_true rfl] at hI
  clear hB
  go_enter Tryz.func34, Tryz.ntmps34
  go_wp2_with fail
  refine hI.mono ?_
  rintro e w1 ⟨rfl, hw⟩
  obtain rfl := hw
  clear hI
  go_wp2_with fail
  go_ret
  exact ⟨rfl, rfl⟩
end Go.Proofs.YtfgmbjdeimallaaGreatDoor
