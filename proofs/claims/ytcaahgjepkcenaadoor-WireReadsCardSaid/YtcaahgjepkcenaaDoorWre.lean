/- The document's row. -/
import Derived.Test.YtcaahgjepkcenaaDoorWrd

namespace Go.Proofs.YtcaahgjepkcenaaDoor
open Go.RowKit Go.Lib

theorem docV_size (l : List UInt8) : (docV l).2.1 ≤ l.length := by
  cases l with
  | nil => simp [docV, bad]
  | cons b t =>
    have h1 := rdU_size t
    unfold docV
    dsimp only
    split
    · simp
    split
    · cases t with
      | nil => simp [bad]
      | cons c r => dsimp only; split <;> simp [bad]
    split
    · split <;> simp [bad]; omega
    split
    · cases t with
      | nil => simp [bad]
      | cons c r =>
        dsimp only
        split
        · simp [bad]
        split
        · simp [bad]
        split
        · simp [bad]
        · simp; omega
    · simp [bad]

/-- what is left of a row's reading -/
def goR (acc : List Va) (at' : Nat) (x : List Va × Nat × Nat) : List Va × Nat × Nat := if x.2.2 ≠ 0 then bad [] x.2.2 else (acc ++ x.1, at' + x.2.1, 0)
theorem goR_nil (acc : List Va) (a : Nat) (l : List UInt8) : goR acc a (docVs 0 l) = (acc, a, 0) := by unfold goR docVs; simp
theorem goR_of_bad (acc : List Va) (a e : Nat) (h : e ≠ 0) : goR acc a (bad [] e) = bad [] e := by
  unfold goR bad
  exact if_pos h
theorem docVs_succ (n : Nat) (l : List UInt8) : docVs (n + 1) l = if (docV l).2.2 ≠ 0 then bad [] (docV l).2.2 else
    if (docVs n (l.drop (docV l).2.1)).2.2 ≠ 0 then bad [] (docVs n (l.drop (docV l).2.1)).2.2 else
    ((docV l).1 :: (docVs n (l.drop (docV l).2.1)).1, (docV l).2.1 + (docVs n (l.drop (docV l).2.1)).2.1, 0) := rfl
theorem goR_bad (acc : List Va) (a n : Nat) (l : List UInt8) (h : (docV l).2.2 ≠ 0) : goR acc a (docVs (n + 1) l) = bad [] (docV l).2.2 := by
  rw [docVs_succ, if_pos h]
  exact goR_of_bad acc a _ h
theorem goR_ok (acc : List Va) (a n : Nat) (l : List UInt8) (v : Va) (m : Nat) (h : docV l = (v, m, 0)) : goR acc a (docVs (n + 1) l) = goR (acc ++ [v]) (a + m) (docVs n (l.drop m)) := by
  rw [docVs_succ, h]
  dsimp only
  rw [if_neg (by simp)]
  generalize docVs n (l.drop m) = x
  obtain ⟨vs, k, e⟩ := x
  dsimp only
  by_cases he : e = 0
  · subst he
    simp [goR, Nat.add_assoc]
  · rw [if_pos he, goR_of_bad _ _ _ he]
    unfold goR
    exact (if_pos he).symm
theorem docR_go (b : UInt8) (t : List UInt8) (h : b.toNat ≤ 64) : docR (b :: t) = goR [] 1 (docVs b.toNat t) := by
  unfold docR goR
  dsimp only
  rw [if_neg (by omega), List.nil_append]

set_option maxRecDepth 100000 in
set_option maxHeartbeats 2000000 in
theorem rowR_any (ao : Option Addr) (c : Nat) (l : List UInt8) (w : World) (h : Rb w ao c l) (hmil : l.length ≤ 1000000) :
    Calls Tryd.prog 39 #[.slice ao l.length c] w fun e w' => ∃ bo d, e = .returned (.tuple #[.slice bo (docR l).1.length d, .int .i64 (docR l).2.1, .int .i64 (docR l).2.2]) ∧ Rv w' bo d (docR l).1 ∧ Keeps [] w w' := by
  obtain ⟨i, z, hi, hz, hsz, hby, hzc⟩ := infoV
  have hmx := h.most
  have hcp := h.cap
  unfold maxLen at hmx
  obtain ⟨dv, hdv⟩ : ∃ dv, docR l = dv := ⟨_, rfl⟩
  rw [hdv]
  by_cases hl0 : l.length = 0
  · have hl : l = [] := List.eq_nil_of_length_eq_zero hl0
    have hd := Lib.hid (show dv = bad [] 22 by rw [← hdv, hl]; rfl)
    clear hl hdv
    go_enter Tryd.func39, Tryd.ntmps39
    go_wp2_with fail
    go_ret3
    exact ⟨none, 0, by rw [hd.out]; rfl, by rw [hd.out]; exact Sl.none _ _, Keeps.refl _ _⟩
  obtain ⟨b, t, hbt⟩ : ∃ b t, l = b :: t := by cases l with | nil => simp at hl0 | cons b t => exact ⟨b, t, rfl⟩
  have hpos : 0 < l.length := by omega
  obtain ⟨bb, o, rfl⟩ := h.at (by omega)
  have c0 := h.cell _ rfl 0 _ (bys_at hpos)
  have e0 : l[0] = b := by simp [hbt]
  rw [e0] at c0
  simp only [Nat.add_zero] at c0
  have ht : l.drop 1 = t := by rw [hbt]; rfl
  rw [hbt] at hdv
  have hb256 := b.toNat_lt
  have n0 : (0 : Int) < (l.length : Int) := by omega
  by_cases h64 : 64 < b.toNat
  · have hd := Lib.hid (show dv = bad [] 20 by rw [← hdv]; unfold docR; dsimp only; rw [if_pos h64])
    have n1 : (64 : Int) < (b.toNat : Int) := by omega
    clear hbt hdv e0 ht
    go_enter Tryd.func39, Tryd.ntmps39
    go_wp2_with fail
    go_ret3
    exact ⟨none, 0, by rw [hd.out]; rfl, by rw [hd.out]; exact Sl.none _ _, Keeps.refl _ _⟩
  rw [docR_go b t (by omega), ← ht] at hdv
  have n1 : ¬ ((64 : Int) < (b.toNat : Int)) := by omega
  clear hbt e0 ht
  generalize b.toNat = m at *
  have HDV := Lib.hid hdv
  clear hdv
  have s1 : IntKind.i64.wrap (m : Int) = m := IntWalk.i64_in _ (by omega)
  have hl63 : l.length < 9223372036854775808 := by omega
  go_enter Tryd.func39, Tryd.ntmps39
  go_wp2_with fail
  go_loopw [5, 6, 7] (fun v5 v6 v7 wr => ∃ (k a : Nat) (ao' : Option Addr) (c' : Nat) (acc : List Va), v5 = .slice ao' acc.length c' ∧ v6 = .int .i64 (a : Int) ∧ v7 = .int .i64 (k : Int) ∧ k ≤ m ∧ acc.length = k ∧ 1 ≤ a ∧ a ≤ l.length ∧ goR acc a (docVs (m - k) (l.drop a)) = dv ∧ OwnV wr w.heap.size ao' c' acc ∧ Keeps [] w wr) (fun _ _ v _ => m - (intOf v).toNat)
  case atStart => exact ⟨0, 1, none, 0, [], rfl, rfl, rfl, by omega, rfl, by omega, by omega, HDV.out, OwnV.nil _ _, Keeps.refl _ _⟩
  case round =>
    obtain ⟨k, a, ao', c', acc, rfl, rfl, rfl, hkm, hlk, ha1, hal, hr, hO, hk⟩ := hrel
    subst hlk
    have hRb := h.keep0 hk
    have c0w := hk.cellSome c0 (by simp)
    clear HDV h c0
    by_cases hke : acc.length = m
    · subst hke
      rw [Nat.sub_self, goR_nil] at hr
      have n2 : ¬ ((acc.length : Int) < (acc.length : Int)) := by omega
      have HR := Lib.hid hr
      clear hr
      go_wp2_with fail
      go_ret3
      exact ⟨ao', c', by rw [← HR.out]; first | rfl | simp, by rw [← HR.out]; exact hO.rv, hk⟩
    have hlt : (acc.length : Int) < (m : Int) := by omega
    have s2 : IntKind.i64.wrap ((acc.length : Int) + 1) = acc.length + 1 := IntWalk.i64_in _ (by omega)
    rw [show m - acc.length = (m - (acc.length + 1)) + 1 by omega] at hr
    have hD := rbD hRb hal
    have hln : (l.drop a).length = l.length - a := List.length_drop
    have hsv := docV_size (l.drop a)
    have U0 := fun n' ao' c' (hn : (l.drop a).length = n') (hR : Rb wr ao' c' (l.drop a)) => hn ▸ valueR_any ao' c' (l.drop a) wr hR (by omega)
    have HLN := Lib.hid hln
    have hbad := goR_bad acc a (m - (acc.length + 1)) (l.drop a)
    have hok := goR_ok acc a (m - (acc.length + 1)) (l.drop a)
    generalize hdv2 : docV (l.drop a) = dx at *
    obtain ⟨v, n, e⟩ := dx
    dsimp only at U0 hbad hsv
    rw [hln] at hsv
    have HU := Lib.hid U0
    have HR := Lib.hid hr
    have HBAD := Lib.hid hbad
    have HOK := Lib.hid hok
    clear hr U0 hln hbad hok hdv2
    have n3 : (a : Int) ≤ (l.length : Int) := by omega
    go_upto_region 10 with (fail)
    go_cut [8, 9, 10] (fun p v9 v10 wx => ∃ vb : Nat, p = .pointer (some ⟨vb, 0, none⟩) ∧ v9 = .int .i64 n ∧ v10 = .int .i64 e ∧ Blk wx vb 95 v.cells ∧ Keeps [] wr wx)
    case first =>
      clear HR HBAD HOK
      by_cases hca : c = a
      · subst hca
        rw [if_pos rfl, Nat.sub_self] at hD
        have HD := Lib.hid hD
        clear hD
        go_wp2_with fail
        refine (HU.out _ _ _ (by have := HLN.out; omega) HD.out).mono ?_
        rintro e w2 ⟨rfl, hk2⟩
        have hV := Blk.fresh w2 95 v.cells
        have hkv := hk2.alloc (.cells v.cells 95)
        obtain ⟨vk, vi, vt⟩ := v
        go_wp2_with fail
        go_meet
        exact ⟨_, rfl, rfl, rfl, hV, hkv⟩
      · rw [if_neg hca] at hD
        simp only [Option.map_some, Addr.add_lit] at hD
        have HD := Lib.hid hD
        clear hD
        go_wp2_with fail
        refine (HU.out _ _ _ (by have := HLN.out; omega) HD.out).mono ?_
        rintro e w2 ⟨rfl, hk2⟩
        have hV := Blk.fresh w2 95 v.cells
        have hkv := hk2.alloc (.cells v.cells 95)
        obtain ⟨vk, vi, vt⟩ := v
        go_wp2_with fail
        go_meet
        exact ⟨_, rfl, rfl, rfl, hV, hkv⟩
    case rest =>
    obtain ⟨vb, rfl, rfl, rfl, hV, hkw⟩ := hcut
    clear hD HU
    by_cases he0 : e = 0
    · subst he0
      have hr2 := (HOK.out v n rfl).symm.trans HR.out
      rw [List.drop_drop] at hr2
      have HR2 := Lib.hid hr2
      have s3 : IntKind.i64.wrap ((a : Int) + (n : Int)) = ((a + n : Nat) : Int) := by rw [IntWalk.i64_in _ (by omega)]; omega
      have hO2 := ownsRow_keep hO hkw (by intro x _; simp)
      have hk02 := hk.trans hkw
      clear hr2 HR HBAD HOK hO hk hkw hRb c0w
      have hO3 := ownsRow_keep hO2 ((Keeps.refl [] wc).alloc (.cells v.cells 95)) (by intro x _; simp)
      go_wp2_with (first | (refine wpList_load_agg rfl 95 _ rfl vb 0 3 rfl 95 _ _ hV Tryd.underlying95 rfl Tryd.sizeV (by simp) v.cells rfl ?_) | (at_builtin; refine wpList_append_by _ rfl _ _ 40 40 rfl w.heap.size 95 i z 3 32 Tryd.underlying40 hi hz hsz hby hzc ao' _ c' _ rfl hO3 _ rfl 1 _ ((rv1 (v := v) (Blk.fresh _ _ _)).src Tryd.underlying40) (by unfold maxLen; omega) (by omega) (by have := hk02.size; simp; omega) ?_; intro ao2 c2 w' hO' hk' hb'))
      have e1 : vals acc ++ vals [v] = vals (acc ++ [v]) := (vals_append acc [v]).symm
      have hO4 := OwnV.of hO' e1
      have hk3 : Keeps (blks ao') wc w' := ((Keeps.refl [] wc).alloc (.cells v.cells 95)).of_nil.trans hk'
      go_wp2_with fail
      go_roundw
      case rel => exact ⟨acc.length + 1, a + n, ao2, c2, acc ++ [v], by simp, by simp, by simp, by omega, by simp, by omega, by omega, HR2.out, hO4, hk02.step hk3 (fun x hx => .inr (ownsRow_lt hO3 x hx).1)⟩
      case measure => simp [intOf]; omega
    · have hb := (HBAD.out he0).symm.trans HR.out
      have HB := Lib.hid hb
      have n5 : ((e : Int) == 0) = false := by simp; omega
      clear hb HR HBAD HOK he0 hO
      go_wp2_with fail
      go_ret3
      exact ⟨none, 0, by rw [← HB.out]; rfl, by rw [← HB.out]; exact Sl.none _ _, hk.trans hkw⟩
end Go.Proofs.YtcaahgjepkcenaaDoor
