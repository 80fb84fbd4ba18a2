/- The wal in memory; what it tells; its entries cut and dropped. -/
import Derived.Test.YtfgmbjdeimallaaGreatWa0
import Derived.Test.YtfgmbjdeimallaaGreatWa1
import Derived.Test.YtfgmbjdeimallaaGreatWz
import Derived.Test.YtfgmbjdeimallaaGreatWy
import Derived.Test.YtfgmbjdeimallaaGreatLawZ
import Derived.Test.YtfgmbjdeimallaaGreatDk1

namespace Go.Proofs.YtfgmbjdeimallaaGreat
open Go.RowKit Go.Lib

theorem Tryz.sizeWal : (Tryz.prog.info? 58).map (·.size) = some 7 := by kernel_rfl
theorem Tryz.sizeHard : (Tryz.prog.info? 47).map (·.size) = some 2 := by kernel_rfl
abbrev walCells (db : Nat) (s : Ws) (ao : Option Addr) (c : Nat) (size : Int) : Array Value := #[.pointer (some ⟨db, 0, none⟩), .int .u64 (s.term : Nat), .int .i64 s.vote, .int .u64 (s.base : Nat), .int .u64 (s.bt : Nat), .slice ao s.es.length c, .int .i64 size]
/-- the wal's block wb; E: the block of its entries -/
structure WalAt (w : World) (wb db : Nat) (s : Ws) (size : Int) (E : List Nat) : Prop where
  at_ : ∃ ao c, Blk w wb 58 (walCells db s ao c size) ∧ OwnO w 37 5 ao s.es.length c (ents s.es) ∧ E = blks ao

section
variable {w w' : World} {wb db : Nat} {s : Ws} {size : Int} {E L : List Nat}
theorem WalAt.lt (h : WalAt w wb db s size E) : wb < w.heap.size := by obtain ⟨ao, c, h1, _⟩ := h.at_; exact h1.lt
theorem WalAt.ltE (h : WalAt w wb db s size E) : ∀ x ∈ E, x < w.heap.size := by obtain ⟨ao, c, h1, h2, rfl⟩ := h.at_; exact h2.lt
theorem WalAt.keep (h : WalAt w wb db s size E) (hk : Keeps L w w') (h1 : wb ∉ L) (h2 : ∀ x ∈ E, x ∉ L) : WalAt w' wb db s size E := by
  obtain ⟨ao, c, h3, h4, rfl⟩ := h.at_
  exact ⟨ao, c, h3.keep hk h1, h4.keep hk h2, rfl⟩
theorem WalAt.keep0 (h : WalAt w wb db s size E) (hk : Keeps [] w w') : WalAt w' wb db s size E := h.keep hk (by simp) (by simp)
/-- a block of another type is none of the wal's -/
theorem WalAt.off (h : WalAt w wb db s size E) {b : Nat} {t : TypeId} {cs : Array Value} (hB : Blk w b t cs) (h1 : t ≠ 58) (h2 : t ≠ 37) : b ≠ wb ∧ b ∉ E := by
  obtain ⟨ao, c, h3, h4, rfl⟩ := h.at_
  exact ⟨hB.ne h3 h1, h4.off hB h2⟩
theorem ents_take (l : List Ent) (k : Nat) : (ents l).take (k * 5) = ents (l.take k) := by
  induction l generalizing k with
  | nil => simp [ents]
  | cons e l ih =>
    cases k with
    | zero => simp [ents]
    | succ k =>
      have h5 : (k + 1) * 5 = k * 5 + 1 + 1 + 1 + 1 + 1 := by omega
      have := ih k
      simp only [ents, List.map_cons, List.flatten_cons, List.take_succ_cons, h5] at this ⊢
      rw [← this]
      rfl
theorem ents_drop (l : List Ent) (k : Nat) : (ents l).drop (k * 5) = ents (l.drop k) := by
  induction l generalizing k with
  | nil => simp [ents]
  | cons e l ih =>
    cases k with
    | zero => simp
    | succ k =>
      have h5 : (k + 1) * 5 = k * 5 + 1 + 1 + 1 + 1 + 1 := by omega
      have := ih k
      simp only [ents, List.map_cons, List.flatten_cons, List.drop_succ_cons, h5] at this ⊢
      rw [← this]
      rfl

theorem wlast (h : WalAt w wb db s size E) (hs : s.last < 18446744073709551616) (hl : s.es.length ≤ 9223372036854775807) : Calls Tryz.prog 53 #[.pointer (some ⟨wb, 0, none⟩)] w fun e w' => e = .returned (.int .u64 (s.last : Nat)) ∧ Keeps [] w w' := by
  obtain ⟨ao, c, hB, hO, rfl⟩ := h.at_
  have hc := hB.cell
  unfold Ws.last at *
  have q1 : IntKind.u64.wrap (s.es.length : Int) = s.es.length := IntWalk.u64_in _ (by omega)
  have q2 : IntKind.u64.wrap ((s.base : Int) + (s.es.length : Int)) = ((s.base + s.es.length : Nat) : Int) := by rw [IntWalk.u64_in _ (by omega)]; omega
  go_enter Tryz.func53, Tryz.ntmps53
  go_wp2_with fail
  go_quiet (fail)
  go_wp2_with fail
  go_ret
  exact ⟨rfl, (Keeps.refl [] w).drewN _⟩
theorem wbase (h : WalAt w wb db s size E) : Calls Tryz.prog 16 #[.pointer (some ⟨wb, 0, none⟩)] w fun e w' => e = .returned (.tuple #[.int .u64 (s.base : Nat), .int .u64 (s.bt : Nat)]) ∧ Keeps [] w w' := by
  obtain ⟨ao, c, hB, hO, rfl⟩ := h.at_
  have hc := hB.cell
  go_enter Tryz.func16, Tryz.ntmps16
  go_wp2_with fail
  go_quiet (fail)
  go_wp2_with fail
  go_ret2
  exact ⟨rfl, (Keeps.refl [] w).drewN _⟩
theorem whard (h : WalAt w wb db s size E) : Calls Tryz.prog 17 #[.pointer (some ⟨wb, 0, none⟩)] w fun e w' => e = .returned (.agg #[.int .u64 (s.term : Nat), .int .i64 s.vote]) ∧ Keeps [] w w' := by
  obtain ⟨ao, c, hB, hO, rfl⟩ := h.at_
  have hX := Blk.fresh w 47 #[.int .u64 0, .int .i64 0]
  have hk := (Keeps.refl [] w).alloc (.cells #[.int .u64 0, .int .i64 0] 47)
  have hB2 := hB.alloc (.cells #[.int .u64 0, .int .i64 0] 47)
  have hc := hB2.cell
  go_enter Tryz.func17, Tryz.ntmps17
  go_wp2_with (refine wpList_store_agg rfl rfl 47 _ _ rfl w.heap.size 0 rfl _ rfl 47 _ hX Tryz.sizeHard (by simp) rfl _ rfl ?_; intro w6 hM6 hk6)
  refine bodyPost_ret (results_c rfl rfl hM6 Tryz.underlying47 rfl Tryz.sizeHard) rfl ⟨rfl, hk.step hk6 (fun x hx => .inr (by simp at hx; omega))⟩
set_option maxRecDepth 100000 in
set_option maxHeartbeats 2000000 in
theorem wentries (h : WalAt w wb db s size E) (hl : s.es.length ≤ 1000000) : Calls Tryz.prog 12 #[.pointer (some ⟨wb, 0, none⟩)] w fun e w' => ∃ bo d, e = .returned (.slice bo s.es.length d) ∧ w'.ownsRow w.heap.size 37 5 (.slice bo s.es.length d) s.es.length (ents s.es) ∧ Keeps [] w w' := by
  obtain ⟨i, z, hi, hz, hsz, hby, hzc⟩ := infoEn
  obtain ⟨ao, c, hB, hO, rfl⟩ := h.at_
  have hc := hB.cell
  have hS := (hO.sl (ents_one _)).src Tryz.underlying34
  go_enter Tryz.func12, Tryz.ntmps12
  go_wp2_with (at_builtin; refine wpList_append_by _ rfl _ _ 34 34 rfl w.heap.size 37 i z 5 48 Tryz.underlying34 hi hz hsz hby hzc none 0 0 [] rfl (World.ownsRow_nil _ _ _ _) _ rfl s.es.length _ hS (by unfold maxLen; omega) (by omega) (Nat.le_refl _) ?_; intro a5 c5 w5 hO5 hk5 hb5)
  rw [Nat.zero_add, List.nil_append] at hO5
  go_ret
  exact ⟨a5, c5, by simp, hO5, hk5⟩
end

section
variable {w : World} {wb db : Nat} {s : Ws} {size : Int} {E : List Nat}
set_option maxRecDepth 100000 in
set_option maxHeartbeats 2000000 in
theorem wcuts (h : WalAt w wb db s size E) (n : Nat) (h1 : s.base < n) (h2 : n ≤ s.last + 1) (hn : n < 18446744073709551616) (hl : s.es.length ≤ 9223372036854775807) : Calls Tryz.prog 29 #[.pointer (some ⟨wb, 0, none⟩), .int .u64 (n : Nat)] w fun e w' => e = .returned (.tuple #[]) ∧ WalAt w' wb db (s.ev (.cut n)) size E ∧ Keeps [wb] w w' := by
  obtain ⟨ao, c, hB, hO, rfl⟩ := h.at_
  unfold Ws.last at h2
  obtain ⟨k, hk⟩ : ∃ k, k = n - s.base - 1 := ⟨_, rfl⟩
  have hcp := hO.cap
  have hcm := hO.most
  unfold maxLen at hcm
  have q1 : IntKind.u64.wrap ((n : Int) - (s.base : Int)) = (n : Int) - s.base := IntWalk.u64_in _ (by omega)
  have q2 : IntKind.u64.wrap ((n : Int) - (s.base : Int) - 1) = (k : Int) := by rw [IntWalk.u64_in _ (by omega)]; omega
  have m1 : k ≤ s.es.length := by omega
  have m2 : k ≤ c := by omega
  have hO2 := hO.take (k := k) (c' := k) m1 (Nat.le_refl _) m2
  rw [ents_take] at hO2
  have fin : ∀ W : World, W = (w.drew.setCell ⟨wb, 5, none⟩ (.slice ao k k)) → WalAt W wb db (s.ev (.cut n)) size (blks ao) ∧ Keeps [wb] w W := by
    rintro W rfl
    have hks := (Keeps.refl [wb] w).drew.set (p := ⟨wb, 5, none⟩) (.inl (by simp)) (.slice ao k k)
    have hlen : (s.es.take k).length = k := by simp; omega
    refine ⟨⟨ao, k, ?_, ?_, rfl⟩, hks⟩
    · have := hB.drew.put 5 (.slice ao k k)
      refine this.eq ?_
      simp [walCells, Ws.ev, ← hk, hlen]
    · have := (hO2.keep hks (fun x hx => by simp; rintro rfl; exact hO.off hB (by decide) hx))
      rw [show (s.ev (.cut n)).es = s.es.take k by simp [Ws.ev, ← hk], hlen]
      exact this
  have FIN := Lib.hid fin
  have hc := hB.cell
  have hf := hB.free
  have hlt := hB.lt
  have m3 : (0 : Int) ≤ (k : Int) := by omega
  have m4 : (k : Int) ≤ (c : Int) := by omega
  clear hO2 hk fin h hO
  go_enter Tryz.func29, Tryz.ntmps29
  go_wp2_with fail
  refine wp_region_still_tail 22 (by kernel_rfl) (by kernel_rfl) ?_
  change wpStill _ _ (World.drew _) _ _ _
  simp only [List.take_succ_cons, List.take_zero, List.drop_succ_cons, List.drop_zero]
  repeat still_step
  refine wpStill_nil ?_
  change wpList _ _ _ _ _ (World.drew _)
  go_wp2_with fail
  go_end0
  exact ⟨rfl, FIN.out _ rfl⟩
end
end Go.Proofs.YtfgmbjdeimallaaGreat
