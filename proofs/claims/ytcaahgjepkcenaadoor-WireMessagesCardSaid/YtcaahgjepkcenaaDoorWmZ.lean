/- WireMessages: classes of errors placed twice, Short; texts, entries, answers that are the same. -/
import Derived.Test.YtcaahgjepkcenaaDoorWme
import Derived.Test.YtcaahgjepkcenaaDoorWh
import Derived.Test.YtcaahgjepkcenaaDoorWk
import Derived.Test.YtcaahgjepkcenaaDoorWrw
import Derived.Test.YtcaahgjepkcenaaDoorErr7
import Derived.Test.YtcaahgjepkcenaaDoorLaws2
import Derived.Test.YtcaahgjepkcenaaDoorWz
import Derived.Test.YtcaahgjepkcenaaDoorWmb
import Derived.Test.YtcaahgjepkcenaaDoorWq

namespace Go.Proofs.YtcaahgjepkcenaaDoor
open Go.RowKit Go.Lib

theorem classQ_any {ev : Value} {f : Nat} {w : World} (hg : (w).cell? ⟨0, 0, none⟩ = some (.iface 153 (.agg #[.pointer (some ⟨2, 27, none⟩)]))) (h : ErrQ w ev f) :
    Calls Tryd.prog 21 #[ev] w fun e w' => e = .returned (.int .i64 f) ∧ Keeps [] w w' := by
  cases h with
  | base h => exact classP_any hg h
  | placed he hB h h0 =>
    subst he
    cases h with
    | base h =>
      rcases h with ⟨_, h1⟩ | ⟨_, g, p, rfl, hG⟩
      · exact absurd h1 h0
      · exact (class_placed _ g f w hg (hB.cell 1) (hG.cell 1)).mono fun e w' h => ⟨h.1, Keeps.of_below h.2⟩
    | placed he2 hB2 h2 h02 =>
      subst he2
      rcases h2 with ⟨_, h1⟩ | ⟨_, g, p, rfl, hG⟩
      · exact absurd h1 h0
      · exact (class_placed2 _ _ g f w hg (hB.cell 1) (hB2.cell 1) (hG.cell 1)).mono fun e w' h => ⟨h.1, Keeps.of_below h.2⟩

def shortB (l : List ByteArray) (m n : Int) : Bool := l.all (fun v => decide ((v.size : Int) ≤ n)) && decide ((l.length : Int) ≤ m)

set_option maxRecDepth 100000 in
theorem short_any (ao : Option Addr) (c : Nat) (l : List ByteArray) (m n : Int) (w : World) (h : Rc w ao c l) :
    Calls Tryd.prog 61 #[.slice ao l.length c, .int .i64 m, .int .i64 n] w fun e w' => e = .returned (.bool (shortB l m n)) ∧ w' = w := by
  have hmx := h.most
  have hcp := h.cap
  unfold maxLen at hmx
  generalize hq : shortB l m n = q
  have HQ := Lib.hid hq
  clear hq
  go_enter Tryd.func61, Tryd.ntmps61
  go_wp2_with fail
  go_loopw [7] (fun v wr => ∃ k : Nat, v = .int .i64 (k : Int) ∧ k ≤ l.length ∧ (∀ v ∈ l.take k, (v.size : Int) ≤ n) ∧ wr = w) (fun v _ => l.length - (intOf v).toNat)
  case atStart => exact ⟨0, rfl, by omega, by simp, rfl⟩
  case round =>
    obtain ⟨k, rfl, hk, ha, rfl⟩ := hrel
    have HA := Lib.hid ha
    clear ha
    by_cases hkl : k < l.length
    rotate_left
    · have n1 : ¬ ((k : Int) < (l.length : Int)) := by omega
      obtain rfl : k = l.length := by omega
      go_wp2_with fail
      go_ret
      have hall : l.all (fun v => decide ((v.size : Int) ≤ n)) = true := by
        rw [List.all_eq_true]
        intro v hv
        have := HA.out v (by rw [List.take_length]; exact hv)
        simpa using this
      exact ⟨by rw [← HQ.out]; unfold shortB; rw [hall]; rfl, rfl⟩
    have n1 : (k : Int) < (l.length : Int) := by omega
    have s1 : IntKind.i64.wrap ((k : Int) + 1) = k + 1 := IntWalk.i64_in _ (by omega)
    have hv := List.getElem?_eq_getElem hkl
    generalize l[k] = v at hv
    obtain ⟨bb, o, rfl, c0⟩ := Rc.at h hv
    have HV := Lib.hid hv
    clear hv
    by_cases hs : n < (v.size : Int)
    · have hall : l.all (fun v => decide ((v.size : Int) ≤ n)) = false := by
        rw [List.all_eq_false]
        exact ⟨v, List.mem_of_getElem? HV.out, by simp; omega⟩
      have hq : q = false := by rw [← HQ.out]; unfold shortB; rw [hall]; rfl
      subst hq
      clear hall
      go_wp2_with fail
      go_ret
      exact ⟨rfl, rfl⟩
    · have hnext : ∀ x ∈ l.take (k + 1), (x.size : Int) ≤ n := by
        intro x hx
        rw [List.take_add_one, HV.out, List.mem_append] at hx
        rcases hx with hx | hx
        · exact HA.out x hx
        · simp at hx
          subst hx
          omega
      have HN := Lib.hid hnext
      clear hnext
      go_wp2_with fail
      go_roundw
      case rel => exact ⟨k + 1, by simp, by omega, HN.out, by simp⟩
      case measure => simp [intOf]; omega

/-- the same texts, wherever they lie -/
theorem texts_eq (ao bo : Option Addr) (c d : Nat) (l : List ByteArray) (w : World) (h : Rc w ao c l) (h' : Rc w bo d l) :
    Calls Tryd.prog 86 #[.slice ao l.length c, .slice bo l.length d] w fun e w' => e = .returned (.bool true) ∧ Keeps [] w w' := by
  have hmx := h.most
  have hcp := h.cap
  unfold maxLen at hmx
  have HL := Lib.hid (And.intro h h')
  clear h h'
  go_enter Tryd.func86, Tryd.ntmps86
  go_wp2_with fail
  go_loopw [5] (fun v wr => ∃ k : Nat, k ≤ l.length ∧ v = .int .i64 (k : Int) ∧ Keeps [] w wr) (fun v _ => l.length - (intOf v).toNat)
  case atStart => exact ⟨0, by omega, rfl, Keeps.refl _ _⟩
  case round =>
    obtain ⟨k, hk, rfl, hkk⟩ := hrel
    by_cases hkl : k < l.length
    rotate_left
    · have n1 : ¬ ((k : Int) < (l.length : Int)) := by omega
      go_wp2_with fail
      go_ret
      exact ⟨rfl, hkk⟩
    have n1 : (k : Int) < (l.length : Int) := by omega
    have s1 : IntKind.i64.wrap ((k : Int) + 1) = k + 1 := IntWalk.i64_in _ (by omega)
    have hv := List.getElem?_eq_getElem hkl
    generalize l[k] = v at hv
    obtain ⟨bb, o, rfl, c0⟩ := Rc.at (HL.out.1.keep0 hkk) hv
    obtain ⟨bb', o', rfl, d0⟩ := Rc.at (HL.out.2.keep0 hkk) hv
    have HV := Lib.hid hv
    clear hv
    go_wp2_with fail
    go_quiet (fail)
    go_wp2_with fail
    go_roundw
    case rel => exact ⟨k + 1, by omega, by simp, hkk.drewN _⟩
    case measure => simp [intOf]; omega

/-- the same entries, wherever they lie -/
theorem entries_eq (ao bo : Option Addr) (c d : Nat) (l : List Ent) (w : World) (h : Re w ao c l) (h' : Re w bo d l) :
    Calls Tryd.prog 72 #[.slice ao l.length c, .slice bo l.length d] w fun e w' => e = .returned (.bool true) ∧ Keeps [] w w' := by
  have hmx := h.most
  have hcp := h.cap
  unfold maxLen at hmx
  have HL := Lib.hid (And.intro h h')
  clear h h'
  go_enter Tryd.func72, Tryd.ntmps72
  go_wp2_with fail
  go_loopw [5] (fun v wr => ∃ k : Nat, k ≤ l.length ∧ v = .int .i64 (k : Int) ∧ Keeps [] w wr) (fun v _ => l.length - (intOf v).toNat)
  case atStart => exact ⟨0, by omega, rfl, Keeps.refl _ _⟩
  case round =>
    obtain ⟨k, hk, rfl, hkk⟩ := hrel
    by_cases hkl : k < l.length
    rotate_left
    · have n1 : ¬ ((k : Int) < (l.length : Int)) := by omega
      go_wp2_with fail
      go_ret
      exact ⟨rfl, hkk⟩
    have n1 : (k : Int) < (l.length : Int) := by omega
    have s1 : IntKind.i64.wrap ((k : Int) + 1) = k + 1 := IntWalk.i64_in _ (by omega)
    have hv := List.getElem?_eq_getElem hkl
    generalize l[k] = v at hv
    obtain ⟨bb, o, rfl, c0, c1, c2, c3, c4⟩ := Re.at (HL.out.1.keep0 hkk) hv
    obtain ⟨bb', o', rfl, d0, d1, d2, d3, d4⟩ := Re.at (HL.out.2.keep0 hkk) hv
    have HV := Lib.hid hv
    clear hv
    go_wp2_with fail
    go_quiet (fail)
    go_wp2_with fail
    go_roundw
    case rel => exact ⟨k + 1, by omega, by simp, hkk.drewN _⟩
    case measure => simp [intOf]; omega

/-- rows that may be read -/
def Rrs (w : World) (ao : Option Addr) (c : Nat) (l : List (List Va)) : Prop := ∃ rs : List Ro, rs.map (·.l) = l ∧ Rr w ao c rs ∧ ∀ r ∈ rs, r.At w
theorem Rrs.keep {w w' : World} {ao : Option Addr} {c : Nat} {l : List (List Va)} (h : Rrs w ao c l) (hk : Keeps [] w w') : Rrs w' ao c l := by
  obtain ⟨rs, h1, h2, h3⟩ := h
  exact ⟨rs, h1, h2.keep0 hk, fun r hr => (h3 r hr).keep hk⟩
theorem Rrs.at {w : World} {ao : Option Addr} {c : Nat} {l : List (List Va)} (h : Rrs w ao c l) {k : Nat} {x : List Va} (hv : l[k]? = some x) :
    ∃ bb o xa xc, ao = some ⟨bb, o, none⟩ ∧ w.cell? ⟨bb, o + k, none⟩ = some (.slice xa x.length xc) ∧ Rv w xa xc x := by
  obtain ⟨rs, h1, h2, h3⟩ := h
  subst h1
  rw [List.getElem?_map, Option.map_eq_some_iff] at hv
  obtain ⟨r, hr, rfl⟩ := hv
  obtain ⟨bb, o, e, hc⟩ := Rr.at h2 hr
  exact ⟨bb, o, r.a, r.c, e, hc, (h3 r (List.mem_of_getElem? hr)).1⟩
theorem Rrs.lens {w : World} {ao : Option Addr} {c : Nat} {l : List (List Va)} (h : Rrs w ao c l) : l.length ≤ 9223372036854775807 ∧ l.length ≤ c := by
  obtain ⟨rs, h1, h2, h3⟩ := h
  subst h1
  have := h2.most
  have := h2.cap
  unfold maxLen at *
  rw [List.length_map]
  omega

set_option maxRecDepth 100000 in
set_option maxHeartbeats 2000000 in
theorem answers_eq (ca cb ra rb : Option Addr) (cc cd rc rd : Nat) (cols : List ByteArray) (rows : List (List Va)) (cnt : Int) (w : World) (hc : Rc w ca cc cols) (hc' : Rc w cb cd cols) (hr : Rrs w ra rc rows) (hr' : Rrs w rb rd rows) :
    Calls Tryd.prog 73 #[.agg #[.slice ca cols.length cc, .slice ra rows.length rc, .int .i64 cnt], .agg #[.slice cb cols.length cd, .slice rb rows.length rd, .int .i64 cnt]] w fun e w' => e = .returned (.bool true) ∧ Keeps [] w w' := by
  have hrl := hr.lens.1
  have HC := Lib.hid (And.intro hc hc')
  have HR := Lib.hid (And.intro hr hr')
  clear hc hc' hr hr'
  have hk0 : Keeps [] w ((w.alloc (.cells #[.slice ca cols.length cc, .slice ra rows.length rc, .int .i64 cnt] 83)).alloc (.cells #[.slice cb cols.length cd, .slice rb rows.length rd, .int .i64 cnt] 83)) := ((Keeps.refl [] w).alloc _).alloc _
  have hX := (Blk.fresh w 83 #[.slice ca cols.length cc, .slice ra rows.length rc, .int .i64 cnt]).alloc (.cells #[.slice cb cols.length cd, .slice rb rows.length rd, .int .i64 cnt] 83)
  have hY := Blk.fresh_at (w.alloc (.cells #[.slice ca cols.length cc, .slice ra rows.length rc, .int .i64 cnt] 83)) 83 #[.slice cb cols.length cd, .slice rb rows.length rd, .int .i64 cnt] (n := w.heap.size + 1) (by simp)
  go_enter Tryd.func73, Tryd.ntmps73
  go_wp2_with fail
  refine (texts_eq ca cb cc cd cols _ (HC.out.1.keep0 hk0) (HC.out.2.keep0 hk0)).mono ?_
  rintro e w1 ⟨rfl, hk1⟩
  have hX := hX.keep hk1 (by simp)
  have hY := hY.keep hk1 (by simp)
  have hk := hk0.trans hk1
  clear hk0 hk1
  have hXc := hX.cell
  have hYc := hY.cell
  go_wp2_with fail
  go_loopw [5] (fun i wr => ∃ k : Nat, k ≤ rows.length ∧ i = .int .i64 (k : Int) ∧ Keeps [] w1 wr ∧ Keeps [] w wr) (fun i _ => rows.length - (intOf i).toNat)
  case atStart => exact ⟨0, by omega, rfl, Keeps.refl _ _, hk⟩
  case round =>
    obtain ⟨k, hkl, rfl, hk1, hkk⟩ := hrel
    have hX2 := (hX.keep hk1 (by simp)).cell
    have hY2 := (hY.keep hk1 (by simp)).cell
    clear hXc hYc hX hY hk
    by_cases hlt : k < rows.length
    · have hv := List.getElem?_eq_getElem hlt
      generalize rows[k] = x at hv
      obtain ⟨b, o, xa, xc, rfl, hcell, hvals⟩ := (HR.out.1.keep hkk).at hv
      obtain ⟨b', o', xa', xc', rfl, hcell', hvals'⟩ := (HR.out.2.keep hkk).at hv
      have HV := Lib.hid (And.intro hvals hvals')
      clear hvals hvals' hv
      have h0 : (0 : Int) ≤ (k : Int) := by omega
      have h1 : (k : Int) < (rows.length : Int) := by omega
      go_wp2
      refine wp_region_still_tail 10 (by kernel_rfl) (by kernel_rfl) ?_
      change wpStill _ _ (World.drew _) _ _ _
      simp only [List.take_succ_cons, List.take_zero, List.drop_succ_cons, List.drop_zero]
      repeat still_step
      refine wpStill_nil ?_
      change wpList _ _ _ _ _ (World.drew _)
      go_wp2_with fail
      refine (values_eq xa xa' xc xc' x _ (HV.out.1.keep0 (Keeps.refl [] wr).drew) (HV.out.2.keep0 (Keeps.refl [] wr).drew)).mono ?_
      rintro e w2 ⟨rfl, hk2⟩
      go_wp2_with fail
      go_roundw
      case rel => exact ⟨k + 1, by omega, by go_num, hk1.drew.trans hk2, hkk.drew.trans hk2⟩
      case measure => simp [intOf]; omega
    · have n1 : ¬ ((k : Int) < (rows.length : Int)) := by omega
      go_wp2
      go_ret
      exact ⟨rfl, hkk⟩
end Go.Proofs.YtcaahgjepkcenaaDoor
/- WireMessages: the law's small and may. -/

namespace Go.Proofs.YtcaahgjepkcenaaDoor
open Go.RowKit Go.Lib

def Md.lsmall (d : Md) : Bool := small d.es 60 && decide (d.data.length ≤ 3000) && decide (d.sql.size ≤ 3000) && shortB d.cols 70 2100 && decide (d.rows.length ≤ 40) && d.rows.all (fun l => few l 70)
theorem MsgAt.rrs {w : World} {d : Md} {a : Ma} (h : MsgAt w d a) : Rrs w a.ra a.rc d.rows := h.rows

set_option maxRecDepth 100000 in
set_option maxHeartbeats 4000000 in
theorem lsmall_any (d : Md) (a : Ma) (w : World) (h : MsgAt w d a) :
    Calls Tryd.prog 42 #[.agg (msgCells d a)] w fun e w' => e = .returned (.bool d.lsmall) ∧ Keeps [] w w' := by
  generalize ho : d.lsmall = ow
  unfold Md.lsmall at ho
  obtain ⟨hE, hD, hC, hR⟩ := (show _ ∧ _ ∧ _ ∧ _ from ⟨h.es, h.data, h.cols, h.rrs⟩)
  obtain ⟨kind, src, dst, term, index, lterm, es, commit, round, ok, off, data, done, client, seq, sql, rseq, rcl, cols, rows, count, rindex, hint⟩ := d
  obtain ⟨ea, ec, da, dc, ca, cc, ra, rc⟩ := a
  dsimp only [msgCells] at *
  have hrl := hR.lens
  have HO := Lib.hid ho
  clear ho h
  have hM := Blk.fresh w 87 #[.int .i64 kind, .int .i64 src, .int .i64 dst, .int .u64 (term : Nat), .int .u64 (index : Nat), .int .u64 (lterm : Nat), .slice ea es.length ec, .int .u64 (commit : Nat), .int .u64 (round : Nat), .bool ok, .int .i64 off, .slice da data.length dc, .bool done, .int .u64 (client : Nat), .int .u64 (seq : Nat), .string sql, .int .u64 (rseq : Nat), .int .i64 rcl, .slice ca cols.length cc, .slice ra rows.length rc, .int .i64 count, .int .u64 (rindex : Nat), .int .i64 hint]
  have hk := (Keeps.refl [] w).alloc (.cells #[.int .i64 kind, .int .i64 src, .int .i64 dst, .int .u64 (term : Nat), .int .u64 (index : Nat), .int .u64 (lterm : Nat), .slice ea es.length ec, .int .u64 (commit : Nat), .int .u64 (round : Nat), .bool ok, .int .i64 off, .slice da data.length dc, .bool done, .int .u64 (client : Nat), .int .u64 (seq : Nat), .string sql, .int .u64 (rseq : Nat), .int .i64 rcl, .slice ca cols.length cc, .slice ra rows.length rc, .int .i64 count, .int .u64 (rindex : Nat), .int .i64 hint] 87)
  go_enter Tryd.func42, Tryd.ntmps42
  go_upto_region 1 with (fail)
  generalize World.alloc w _ = w1 at *
  generalize w.heap.size = mb at *
  have HE := Lib.hid (hE.keep0 hk)
  have HC := Lib.hid (hC.keep0 hk)
  have HR := Lib.hid (hR.keep hk)
  clear hE hD hC hR
  have hcM := hM.cell
  have hlM := hM.lt
  go_wp2_with fail
  refine (small_any ea ec es 60 w1 HE.out).mono ?_
  rintro e w' ⟨rfl, hw⟩
  obtain rfl := hw.symm
  clear hw HE
  generalize small es 60 = q1 at *
  cases q1 with
  | false =>
    have e1 := Lib.hid (show ow = false by rw [← HO.out]; simp)
    clear HO
    go_wp2_with fail
    go_ret
    exact ⟨by rw [e1.out]; rfl, hk⟩
  | true =>
  by_cases c0 : data.length ≤ 3000
  rotate_left
  · have e1 := Lib.hid (show ow = false by rw [← HO.out]; simp [c0])
    have n1 : (3000 : Int) < (data.length : Int) := by omega
    clear HO
    go_wp2_with fail
    go_ret
    exact ⟨by rw [e1.out]; rfl, hk⟩
  have m0 : ¬ ((3000 : Int) < (data.length : Int)) := by omega
  by_cases c1 : sql.size ≤ 3000
  rotate_left
  · have e1 := Lib.hid (show ow = false by rw [← HO.out]; simp [c1])
    have n1 : (3000 : Int) < (sql.size : Int) := by omega
    clear HO
    go_wp2_with fail
    go_ret
    exact ⟨by rw [e1.out]; rfl, hk⟩
  have m1 : ¬ ((3000 : Int) < (sql.size : Int)) := by omega
  go_wp2_with fail
  refine (short_any ca cc cols 70 2100 w1 HC.out).mono ?_
  rintro e w' ⟨rfl, hw⟩
  obtain rfl := hw.symm
  clear hw HC
  generalize shortB cols 70 2100 = q1 at *
  cases q1 with
  | false =>
    have e1 := Lib.hid (show ow = false by rw [← HO.out]; simp)
    clear HO
    go_wp2_with fail
    go_ret
    exact ⟨by rw [e1.out]; rfl, hk⟩
  | true =>
  by_cases c2 : rows.length ≤ 40
  rotate_left
  · have e1 := Lib.hid (show ow = false by rw [← HO.out]; simp [c2])
    have n1 : (40 : Int) < (rows.length : Int) := by omega
    clear HO
    go_wp2_with fail
    go_ret
    exact ⟨by rw [e1.out]; rfl, hk⟩
  have m2 : ¬ ((40 : Int) < (rows.length : Int)) := by omega
  have HQ := Lib.hid (show ow = rows.all (fun l => few l 70) by rw [← HO.out]; simp [c0, c1, c2])
  clear HO
  go_wp2_with fail
  go_loopw [3] (fun v wr => ∃ k : Nat, v = .int .i64 (k : Int) ∧ k ≤ rows.length ∧ (∀ l ∈ rows.take k, few l 70 = true) ∧ wr = w1) (fun v _ => rows.length - (intOf v).toNat)
  case atStart => exact ⟨0, rfl, by omega, by simp, rfl⟩
  case round =>
    obtain ⟨k, rfl, hkl, ha, rfl⟩ := hrel
    have HA := Lib.hid ha
    clear ha
    by_cases hlt : k < rows.length
    rotate_left
    · have n1 : ¬ ((k : Int) < (rows.length : Int)) := by omega
      obtain rfl : k = rows.length := by omega
      have e1 := Lib.hid (show ow = true by rw [HQ.out, List.all_eq_true]; intro l hl; exact HA.out l (by rw [List.take_length]; exact hl))
      go_wp2_with fail
      go_ret
      exact ⟨by rw [e1.out]; rfl, hk⟩
    have n1 : (k : Int) < (rows.length : Int) := by omega
    have s1 : IntKind.i64.wrap ((k : Int) + 1) = k + 1 := IntWalk.i64_in _ (by omega)
    have hv := List.getElem?_eq_getElem hlt
    generalize rows[k] = x at hv
    obtain ⟨b, o, xa, xc, rfl, hcell, hV⟩ := HR.out.at hv
    have HV := Lib.hid hv
    clear hv
    go_wp2_with fail
    refine (few_any xa xc x 70 wr hV).mono ?_
    rintro e w' ⟨rfl, hw⟩
    obtain rfl := hw.symm
    clear hw hV
    cases hf : few x 70 with
    | false =>
      have e1 := Lib.hid (show ow = false by rw [HQ.out, List.all_eq_false]; exact ⟨x, List.mem_of_getElem? HV.out, by rw [hf]; simp⟩)
      clear hf
      go_wp2_with fail
      go_ret
      exact ⟨by rw [e1.out]; rfl, hk⟩
    | true =>
      have hnext : ∀ y ∈ rows.take (k + 1), few y 70 = true := by
        intro y hy
        rw [List.take_add_one, HV.out, List.mem_append] at hy
        rcases hy with hy | hy
        · exact HA.out y hy
        · simp at hy
          subst hy
          exact hf
      have HN := Lib.hid hnext
      clear hnext hf
      go_wp2_with fail
      go_roundw
      case rel => exact ⟨k + 1, by simp, by omega, HN.out, by simp⟩
      case measure => simp [intOf]; omega
set_option maxRecDepth 100000 in
set_option maxHeartbeats 8000000 in
theorem lmay_any (d : Md) (a : Ma) (w : World) (h : MsgAt w d a) (hn : d.Nums) (hs : d.lsmall = true) :
    Calls Tryd.prog 44 #[.agg (msgCells d a)] w fun e w' => e = .returned (.bool d.may) ∧ Keeps [] w w' := by
  generalize ho : d.may = ow
  unfold Md.may Md.own at ho
  have hne := hn.es
  have hwf : ∀ x ∈ d.rows, ∀ v ∈ x, (Lit.int .i64 v.int).wf = true := by
    obtain ⟨rs, q1, q2, q3⟩ := h.rows
    intro x hx
    rw [← q1] at hx
    obtain ⟨r, hr, rfl⟩ := List.mem_map.1 hx
    exact (q3 r hr).2
  unfold Md.lsmall small shortB at hs
  simp only [Bool.and_eq_true, decide_eq_true_eq] at hs
  obtain ⟨⟨⟨⟨⟨z1, z2⟩, z3⟩, z4⟩, z5⟩, z6⟩ := hs
  replace z1 := z1.2
  replace z4 := z4.2
  clear hn z6
  obtain ⟨hE, hD, hC, hR⟩ := (show _ ∧ _ ∧ _ ∧ _ from ⟨h.es, h.data, h.cols, h.rrs⟩)
  obtain ⟨kind, src, dst, term, index, lterm, es, commit, round, ok, off, data, done, client, seq, sql, rseq, rcl, cols, rows, count, rindex, hint⟩ := d
  obtain ⟨ea, ec, da, dc, ca, cc, ra, rc⟩ := a
  dsimp only [msgCells] at *
  have hrl := hR.lens
  have HO := Lib.hid ho
  clear ho h
  have hM := Blk.fresh w 87 #[.int .i64 kind, .int .i64 src, .int .i64 dst, .int .u64 (term : Nat), .int .u64 (index : Nat), .int .u64 (lterm : Nat), .slice ea es.length ec, .int .u64 (commit : Nat), .int .u64 (round : Nat), .bool ok, .int .i64 off, .slice da data.length dc, .bool done, .int .u64 (client : Nat), .int .u64 (seq : Nat), .string sql, .int .u64 (rseq : Nat), .int .i64 rcl, .slice ca cols.length cc, .slice ra rows.length rc, .int .i64 count, .int .u64 (rindex : Nat), .int .i64 hint]
  have hk := (Keeps.refl [] w).alloc (.cells #[.int .i64 kind, .int .i64 src, .int .i64 dst, .int .u64 (term : Nat), .int .u64 (index : Nat), .int .u64 (lterm : Nat), .slice ea es.length ec, .int .u64 (commit : Nat), .int .u64 (round : Nat), .bool ok, .int .i64 off, .slice da data.length dc, .bool done, .int .u64 (client : Nat), .int .u64 (seq : Nat), .string sql, .int .u64 (rseq : Nat), .int .i64 rcl, .slice ca cols.length cc, .slice ra rows.length rc, .int .i64 count, .int .u64 (rindex : Nat), .int .i64 hint] 87)
  have HNE := Lib.hid hne
  have HWF := Lib.hid hwf
  clear hne hwf
  have y1 : es.length ≤ 1000 := by omega
  have y2 : data.length ≤ 262144 := by omega
  have y3 : rows.length ≤ 20000 := by omega
  go_enter Tryd.func44, Tryd.ntmps44
  go_upto_region 1 with (fail)
  generalize World.alloc w _ = w1 at *
  generalize w.heap.size = mb at *
  have HE := Lib.hid (hE.keep0 hk)
  have HC := Lib.hid (hC.keep0 hk)
  have HR := Lib.hid (hR.keep hk)
  clear hE hD hC hR
  have hcM := hM.cell
  have hlM := hM.lt
  by_cases c0 : 1 ≤ kind
  rotate_left
  · as_aux_lemma =>
    have e1 := Lib.hid (show ow = false by rw [← HO.out]; simp [inB, c0])
    have n1 : kind < 1 := by omega
    clear HO
    go_wp2_with fail
    go_ret
    exact ⟨by rw [e1.out]; rfl, hk⟩
  have m0 : ¬ (kind < 1) := by omega
  by_cases c1 : kind ≤ 8
  rotate_left
  · as_aux_lemma =>
    have e1 := Lib.hid (show ow = false by rw [← HO.out]; simp [inB, c1])
    have n1 : 8 < kind := by omega
    clear HO
    go_wp2_with fail
    go_ret
    exact ⟨by rw [e1.out]; rfl, hk⟩
  have m1 : ¬ (8 < kind) := by omega
  by_cases c2 : -1 ≤ src
  rotate_left
  · as_aux_lemma =>
    have e1 := Lib.hid (show ow = false by rw [← HO.out]; simp [inB, c2])
    have n1 : src < -1 := by omega
    clear HO
    go_wp2_with fail
    go_ret
    exact ⟨by rw [e1.out]; rfl, hk⟩
  have m2 : ¬ (src < -1) := by omega
  by_cases c3 : src ≤ 1000
  rotate_left
  · as_aux_lemma =>
    have e1 := Lib.hid (show ow = false by rw [← HO.out]; simp [inB, c3])
    have n1 : 1000 < src := by omega
    clear HO
    go_wp2_with fail
    go_ret
    exact ⟨by rw [e1.out]; rfl, hk⟩
  have m3 : ¬ (1000 < src) := by omega
  by_cases c4 : -1 ≤ dst
  rotate_left
  · as_aux_lemma =>
    have e1 := Lib.hid (show ow = false by rw [← HO.out]; simp [inB, c4])
    have n1 : dst < -1 := by omega
    clear HO
    go_wp2_with fail
    go_ret
    exact ⟨by rw [e1.out]; rfl, hk⟩
  have m4 : ¬ (dst < -1) := by omega
  by_cases c5 : dst ≤ 1000
  rotate_left
  · as_aux_lemma =>
    have e1 := Lib.hid (show ow = false by rw [← HO.out]; simp [inB, c5])
    have n1 : 1000 < dst := by omega
    clear HO
    go_wp2_with fail
    go_ret
    exact ⟨by rw [e1.out]; rfl, hk⟩
  have m5 : ¬ (1000 < dst) := by omega
  by_cases c6 : -1 ≤ hint
  rotate_left
  · as_aux_lemma =>
    have e1 := Lib.hid (show ow = false by rw [← HO.out]; simp [inB, c6])
    have n1 : hint < -1 := by omega
    clear HO
    go_wp2_with fail
    go_ret
    exact ⟨by rw [e1.out]; rfl, hk⟩
  have m6 : ¬ (hint < -1) := by omega
  by_cases c7 : hint ≤ 1000
  rotate_left
  · as_aux_lemma =>
    have e1 := Lib.hid (show ow = false by rw [← HO.out]; simp [inB, c7])
    have n1 : 1000 < hint := by omega
    clear HO
    go_wp2_with fail
    go_ret
    exact ⟨by rw [e1.out]; rfl, hk⟩
  have m7 : ¬ (1000 < hint) := by omega
  by_cases c8 : 0 ≤ off
  rotate_left
  · as_aux_lemma =>
    have e1 := Lib.hid (show ow = false by rw [← HO.out]; simp [inB, c8])
    have n1 : off < 0 := by omega
    clear HO
    go_wp2_with fail
    go_ret
    exact ⟨by rw [e1.out]; rfl, hk⟩
  have m8 : ¬ (off < 0) := by omega
  by_cases c9 : off ≤ 262144
  rotate_left
  · as_aux_lemma =>
    have e1 := Lib.hid (show ow = false by rw [← HO.out]; simp [inB, c9])
    have n1 : 262144 < off := by omega
    clear HO
    go_wp2_with fail
    go_ret
    exact ⟨by rw [e1.out]; rfl, hk⟩
  have m9 : ¬ (262144 < off) := by omega
  by_cases c10 : sql.size ≤ 2000
  rotate_left
  · as_aux_lemma =>
    have e1 := Lib.hid (show ow = false by rw [← HO.out]; simp [inB, c10])
    have n1 : (2000 : Int) < (sql.size : Int) := by omega
    clear HO
    go_wp2_with fail
    go_ret
    exact ⟨by rw [e1.out]; rfl, hk⟩
  have m10 : ¬ ((2000 : Int) < (sql.size : Int)) := by omega
  have HQ := Lib.hid (show ow = (decide (0 ≤ rcl) && decide (rcl ≤ 100) && decide (cols.length ≤ 64) && (decide (0 ≤ count) && decide (count ≤ 262144)) && es.all entOk && cols.all (fun s => decide (s.size ≤ 2000)) && rows.all rowOk) by
    rw [← HO.out]
    simp [inB, c0, c1, c2, c3, c4, c5, c6, c7, c8, c9, c10, y1, y2, y3])
  clear HO c0 c1 c2 c3 c4 c5 c6 c7 c8 c9 c10
  go_wp2_with fail
  clear m0 m1 m2 m3 m4 m5 m6 m7 m8 m9 m10
  as_aux_lemma =>
  go_loopw [3] (fun v wr => ∃ k : Nat, v = .int .i64 (k : Int) ∧ k ≤ es.length ∧ (∀ x ∈ es.take k, entOk x = true) ∧ Keeps [] w1 wr) (fun v _ => es.length - (intOf v).toNat)
  case atStart => exact ⟨0, rfl, by omega, by simp, Keeps.refl _ _⟩
  case round =>
  obtain ⟨k, rfl, hkl, ha, hkk⟩ := hrel
  have HA := Lib.hid ha
  have hM1 := hM.keep hkk (by simp)
  have hk1 := hk.trans hkk
  clear ha hcM hlM
  have hcM := hM1.cell
  have hlM := hM1.lt
  by_cases hlt : k < es.length
  · as_aux_lemma =>
    have n1 : (k : Int) < (es.length : Int) := by omega
    have s1 : IntKind.i64.wrap ((k : Int) + 1) = k + 1 := IntWalk.i64_in _ (by omega)
    have hv := List.getElem?_eq_getElem hlt
    generalize es[k] = x at hv
    obtain ⟨b, o, rfl, g0, g1, g2, g3, g4⟩ := Re.at (HE.out.keep0 hkk) hv
    have hx := HNE.out x (List.mem_of_getElem? hv)
    obtain ⟨xt, xk, xq, xs, xp⟩ := x
    dsimp only at g0 g1 g2 g3 g4 hx
    have P := fun W => putEntryR_any xt xk xq xs xp W hx.1 hx.2.1 hx.2.2
    have HV := Lib.hid hv
    have HP := Lib.hid P
    clear hv P hx
    cases hf : entOk ⟨xt, xk, xq, xs, xp⟩ with
    | false =>
      have e1 := Lib.hid (show ow = false by
        have : es.all entOk = false := by rw [List.all_eq_false]; exact ⟨_, List.mem_of_getElem? HV.out, by rw [hf]; simp⟩
        rw [HQ.out, this]; simp)
      have P := HP.out
      simp only [hf, Bool.false_eq_true, if_false] at P
      clear HP
      have HP := Lib.hid P
      clear P hf
      go_wp2_with fail
      refine (HP.out _).mono ?_
      rintro e w2 ⟨bo, bd, rfl, hO, hk2⟩
      go_wp2_with fail
      go_ret
      exact ⟨by rw [e1.out]; rfl, hk1.trans hk2⟩
    | true =>
      have hnext : ∀ y ∈ es.take (k + 1), entOk y = true := by
        intro y hy
        rw [List.take_add_one, HV.out, List.mem_append] at hy
        rcases hy with hy | hy
        · exact HA.out y hy
        · simp at hy
          subst hy
          exact hf
      have HN := Lib.hid hnext
      have P := HP.out
      simp only [hf, if_true] at P
      clear HP hnext
      have HP := Lib.hid P
      clear P hf
      go_wp2_with fail
      refine (HP.out _).mono ?_
      rintro e w2 ⟨bo, bd, rfl, hO, hk2⟩
      go_wp2_with fail
      go_roundw
      case rel => exact ⟨k + 1, by simp, by omega, HN.out, hkk.trans hk2⟩
      case measure => simp [intOf]; omega
  obtain rfl : k = es.length := by omega
  have hall : es.all entOk = true := by rw [List.all_eq_true]; intro x hx; exact HA.out x (by rw [List.take_length]; exact hx)
  have HQ2 := Lib.hid (show ow = (decide (0 ≤ rcl) && decide (rcl ≤ 100) && decide (cols.length ≤ 64) && (decide (0 ≤ count) && decide (count ≤ 262144)) && cols.all (fun s => decide (s.size ≤ 2000)) && rows.all rowOk) by
    rw [HQ.out, hall, Bool.and_true])
  have HC1 := Lib.hid (HC.out.keep0 hkk)
  have HR1 := Lib.hid (HR.out.keep hkk)
  clear HQ hall HA HE HNE hkk hM hk HC HR hkl hlt
  go_upto_region 9 with (fail)
  as_aux_lemma =>
  clear hcM hlM
  go_upto_region 10 with (first
    | (refine wpList_load_agg rfl 85 _ rfl mb 16 6 ?_ 87 #[.int .i64 kind, .int .i64 src, .int .i64 dst, .int .u64 (term : Nat), .int .u64 (index : Nat), .int .u64 (lterm : Nat), .slice ea es.length ec, .int .u64 (commit : Nat), .int .u64 (round : Nat), .bool ok, .int .i64 off, .slice da data.length dc, .bool done, .int .u64 (client : Nat), .int .u64 (seq : Nat), .string sql, .int .u64 (rseq : Nat), .int .i64 rcl, .slice ca cols.length cc, .slice ra rows.length rc, .int .i64 count, .int .u64 (rindex : Nat), .int .i64 hint] _ hM1 Tryd.underlying85 rfl Tryd.sizeRP ?_ #[.int .u64 (rseq : Nat), .int .i64 rcl, .slice ca cols.length cc, .slice ra rows.length rc, .int .i64 count, .int .u64 (rindex : Nat)] ?_ ?_; rfl; simp; rfl)
    | (refine wpList_store_fresh rfl rfl 85 _ _ rfl wr.heap.size ?_ rfl ((#[.int .u64 (rseq : Nat), .int .i64 rcl, .slice ca cols.length cc, .slice ra rows.length rc, .int .i64 count, .int .u64 (rindex : Nat)] : Array Value).toList) ?_ _ _ Tryd.sizeRP ?_ ?_ ?_; rfl; rfl; simp; rfl))
  have hX := Blk.fresh wr 85 #[.int .u64 (rseq : Nat), .int .i64 rcl, .slice ca cols.length cc, .slice ra rows.length rc, .int .i64 count, .int .u64 (rindex : Nat)]
  have hkA := (Keeps.refl [] wr).alloc (.cells #[.int .u64 (rseq : Nat), .int .i64 rcl, .slice ca cols.length cc, .slice ra rows.length rc, .int .i64 count, .int .u64 (rindex : Nat)] 85)
  have HC2 := Lib.hid (HC1.out.keep0 hkA)
  have HR2 := Lib.hid (HR1.out.keep hkA)
  have hk2 := hk1.trans hkA
  clear HC1 HR1 hM1 hk1 hkA
  generalize World.alloc wr _ = w2 at *
  generalize wr.heap.size = xb at *
  have hcX := hX.cell
  have hlX := hX.lt
  by_cases c0 : 0 ≤ rcl
  rotate_left
  · as_aux_lemma =>
    have e1 := Lib.hid (show ow = false by rw [HQ2.out]; simp [c0])
    have n1 : rcl < 0 := by omega
    clear HQ2
    go_wp2_with fail
    go_ret
    exact ⟨by rw [e1.out]; rfl, hk2⟩
  have m0 : ¬ (rcl < 0) := by omega
  by_cases c1 : rcl ≤ 100
  rotate_left
  · as_aux_lemma =>
    have e1 := Lib.hid (show ow = false by rw [HQ2.out]; simp [c1])
    have n1 : 100 < rcl := by omega
    clear HQ2
    go_wp2_with fail
    go_ret
    exact ⟨by rw [e1.out]; rfl, hk2⟩
  have m1 : ¬ (100 < rcl) := by omega
  by_cases c2 : cols.length ≤ 64
  rotate_left
  · as_aux_lemma =>
    have e1 := Lib.hid (show ow = false by rw [HQ2.out]; simp [c2])
    have n1 : (64 : Int) < (cols.length : Int) := by omega
    clear HQ2
    go_wp2_with fail
    go_ret
    exact ⟨by rw [e1.out]; rfl, hk2⟩
  have m2 : ¬ ((64 : Int) < (cols.length : Int)) := by omega
  by_cases c3 : 0 ≤ count
  rotate_left
  · as_aux_lemma =>
    have e1 := Lib.hid (show ow = false by rw [HQ2.out]; simp [c3])
    have n1 : count < 0 := by omega
    clear HQ2
    go_wp2_with fail
    go_ret
    exact ⟨by rw [e1.out]; rfl, hk2⟩
  have m3 : ¬ (count < 0) := by omega
  by_cases c4 : count ≤ 262144
  rotate_left
  · as_aux_lemma =>
    have e1 := Lib.hid (show ow = false by rw [HQ2.out]; simp [c4])
    have n1 : 262144 < count := by omega
    clear HQ2
    go_wp2_with fail
    go_ret
    exact ⟨by rw [e1.out]; rfl, hk2⟩
  have m4 : ¬ (262144 < count) := by omega
  have HQ3 := Lib.hid (show ow = (shortB cols 64 2000 && rows.all rowOk) by
    rw [HQ2.out]
    have e : (fun s : ByteArray => decide (s.size ≤ 2000)) = fun s : ByteArray => decide ((s.size : Int) ≤ 2000) := by
      funext s
      rw [Bool.eq_iff_iff]
      simp
      omega
    have c2' : (cols.length : Int) ≤ 64 := by omega
    simp [shortB, c0, c1, c2, c3, c4, c2', e])
  clear HQ2 c0 c1 c2 c3 c4
  go_wp2_with fail
  refine (short_any ca cc cols 64 2000 w2 HC2.out).mono ?_
  rintro e w' ⟨rfl, hw⟩
  obtain rfl := hw.symm
  clear hw HC2
  generalize shortB cols 64 2000 = q1 at *
  cases q1 with
  | false =>
    have e1 := Lib.hid (show ow = false by rw [HQ3.out]; simp)
    go_wp2_with fail
    go_ret
    exact ⟨by rw [e1.out]; rfl, hk2⟩
  | true =>
  clear m0 m1 m2 m3 m4
  go_wp2_with fail
  as_aux_lemma =>
  go_loopw [7] (fun v wr => ∃ k : Nat, v = .int .i64 (k : Int) ∧ k ≤ rows.length ∧ (∀ x ∈ rows.take k, rowOk x = true) ∧ Keeps [] w2 wr) (fun v _ => rows.length - (intOf v).toNat)
  case atStart => exact ⟨0, rfl, by omega, by simp, Keeps.refl _ _⟩
  case round =>
  obtain ⟨k, rfl, hkl, ha, hkk⟩ := hrel
  have HA := Lib.hid ha
  have hX1 := hX.keep hkk (by simp)
  have hk3 := hk2.trans hkk
  clear ha hcX hlX
  have hcX := hX1.cell
  have hlX := hX1.lt
  by_cases hlt : k < rows.length
  rotate_left
  · have n1 : ¬ ((k : Int) < (rows.length : Int)) := by omega
    obtain rfl : k = rows.length := by omega
    have e1 := Lib.hid (show ow = true by rw [HQ3.out, Bool.true_and, List.all_eq_true]; intro x hx; exact HA.out x (by rw [List.take_length]; exact hx))
    go_wp2_with fail
    go_ret
    exact ⟨by rw [e1.out]; rfl, hk3⟩
  have n1 : (k : Int) < (rows.length : Int) := by omega
  have s1 : IntKind.i64.wrap ((k : Int) + 1) = k + 1 := IntWalk.i64_in _ (by omega)
  have hv := List.getElem?_eq_getElem hlt
  generalize rows[k] = x at hv
  obtain ⟨b, o, xa, xc, rfl, hcell, hV⟩ := (HR2.out.keep hkk).at hv
  have P := putRowR_any xa xc x wr hV (HWF.out x (List.mem_of_getElem? hv))
  have HV := Lib.hid hv
  clear hv hV
  cases hf : rowOk x with
  | false =>
    have e1 := Lib.hid (show ow = false by
      have : rows.all rowOk = false := by rw [List.all_eq_false]; exact ⟨x, List.mem_of_getElem? HV.out, by rw [hf]; simp⟩
      rw [HQ3.out, this]; simp)
    simp only [hf, Bool.false_eq_true, if_false] at P
    have HP := Lib.hid P
    clear P hf
    go_wp2_with fail
    refine HP.out.mono ?_
    rintro e w3 ⟨bo, bd, rfl, hO, hk4⟩
    go_wp2_with fail
    go_ret
    exact ⟨by rw [e1.out]; rfl, hk3.trans hk4⟩
  | true =>
    have hnext : ∀ y ∈ rows.take (k + 1), rowOk y = true := by
      intro y hy
      rw [List.take_add_one, HV.out, List.mem_append] at hy
      rcases hy with hy | hy
      · exact HA.out y hy
      · simp at hy
        subst hy
        exact hf
    have HN := Lib.hid hnext
    simp only [hf, if_true] at P
    have HP := Lib.hid P
    clear P hf hnext
    go_wp2_with fail
    refine HP.out.mono ?_
    rintro e w3 ⟨bo, bd, rfl, hO, hk4⟩
    go_wp2_with fail
    go_roundw
    case rel => exact ⟨k + 1, by simp, by omega, HN.out, hkk.trans hk4⟩
    case measure => simp [intOf]; omega
end Go.Proofs.YtcaahgjepkcenaaDoor
/- WireMessages: the law's same, of two messages of the same data. -/

namespace Go.Proofs.YtcaahgjepkcenaaDoor
open Go.RowKit Go.Lib

theorem rds2 {W : World} {mb nb : Nat} {t : TypeId} {c1 c2 : Array Value} (hM : Blk W mb t c1) (hN : Blk W nb t c2) : ∀ p ∈ [((1 : Nat), fun w0 : World => Blk w0 mb t c1), ((3 : Nat), fun w0 : World => Blk w0 nb t c2)], p.2 W := by
  intro p hp
  simp only [List.mem_cons, List.not_mem_nil, or_false] at hp
  rcases hp with rfl | rfl
  · exact hM
  · exact hN

set_option maxRecDepth 100000 in
set_option maxHeartbeats 4000000 in
theorem same_any (d : Md) (a b : Ma) (w : World) (h : MsgAt w d a) (h' : MsgAt w d b) :
    Calls Tryd.prog 46 #[.agg (msgCells d a), .agg (msgCells d b)] w fun e w' => e = .returned (.bool true) ∧ Keeps [] w w' := by
  obtain ⟨hE, hD, hC, hR⟩ := (show _ ∧ _ ∧ _ ∧ _ from ⟨h.es, h.data, h.cols, h.rrs⟩)
  obtain ⟨hE', hD', hC', hR'⟩ := (show _ ∧ _ ∧ _ ∧ _ from ⟨h'.es, h'.data, h'.cols, h'.rrs⟩)
  clear h h'
  obtain ⟨kind, src, dst, term, index, lterm, es, commit, round, ok, off, data, done, client, seq, sql, rseq, rcl, cols, rows, count, rindex, hint⟩ := d
  obtain ⟨ea, ec, da, dc, ca, cc, ra, rc⟩ := a
  obtain ⟨fa, fc, ga, gc, ka, kc, ma, mc⟩ := b
  dsimp only [msgCells] at *
  have HE := Lib.hid (And.intro hE hE')
  have HD := Lib.hid (And.intro hD hD')
  have HC := Lib.hid (And.intro hC hC')
  have HR := Lib.hid (And.intro hR hR')
  clear hE hE' hD hD' hC hC' hR hR'
  have hM := (Blk.fresh w 87 #[.int .i64 kind, .int .i64 src, .int .i64 dst, .int .u64 (term : Nat), .int .u64 (index : Nat), .int .u64 (lterm : Nat), .slice ea es.length ec, .int .u64 (commit : Nat), .int .u64 (round : Nat), .bool ok, .int .i64 off, .slice da data.length dc, .bool done, .int .u64 (client : Nat), .int .u64 (seq : Nat), .string sql, .int .u64 (rseq : Nat), .int .i64 rcl, .slice ca cols.length cc, .slice ra rows.length rc, .int .i64 count, .int .u64 (rindex : Nat), .int .i64 hint]).alloc (.cells #[.int .i64 kind, .int .i64 src, .int .i64 dst, .int .u64 (term : Nat), .int .u64 (index : Nat), .int .u64 (lterm : Nat), .slice fa es.length fc, .int .u64 (commit : Nat), .int .u64 (round : Nat), .bool ok, .int .i64 off, .slice ga data.length gc, .bool done, .int .u64 (client : Nat), .int .u64 (seq : Nat), .string sql, .int .u64 (rseq : Nat), .int .i64 rcl, .slice ka cols.length kc, .slice ma rows.length mc, .int .i64 count, .int .u64 (rindex : Nat), .int .i64 hint] 87)
  have hN := Blk.fresh_at (w.alloc (.cells #[.int .i64 kind, .int .i64 src, .int .i64 dst, .int .u64 (term : Nat), .int .u64 (index : Nat), .int .u64 (lterm : Nat), .slice ea es.length ec, .int .u64 (commit : Nat), .int .u64 (round : Nat), .bool ok, .int .i64 off, .slice da data.length dc, .bool done, .int .u64 (client : Nat), .int .u64 (seq : Nat), .string sql, .int .u64 (rseq : Nat), .int .i64 rcl, .slice ca cols.length cc, .slice ra rows.length rc, .int .i64 count, .int .u64 (rindex : Nat), .int .i64 hint] 87)) 87 #[.int .i64 kind, .int .i64 src, .int .i64 dst, .int .u64 (term : Nat), .int .u64 (index : Nat), .int .u64 (lterm : Nat), .slice fa es.length fc, .int .u64 (commit : Nat), .int .u64 (round : Nat), .bool ok, .int .i64 off, .slice ga data.length gc, .bool done, .int .u64 (client : Nat), .int .u64 (seq : Nat), .string sql, .int .u64 (rseq : Nat), .int .i64 rcl, .slice ka cols.length kc, .slice ma rows.length mc, .int .i64 count, .int .u64 (rindex : Nat), .int .i64 hint] (n := w.heap.size + 1) (by simp)
  have hk := ((Keeps.refl [] w).alloc (.cells #[.int .i64 kind, .int .i64 src, .int .i64 dst, .int .u64 (term : Nat), .int .u64 (index : Nat), .int .u64 (lterm : Nat), .slice ea es.length ec, .int .u64 (commit : Nat), .int .u64 (round : Nat), .bool ok, .int .i64 off, .slice da data.length dc, .bool done, .int .u64 (client : Nat), .int .u64 (seq : Nat), .string sql, .int .u64 (rseq : Nat), .int .i64 rcl, .slice ca cols.length cc, .slice ra rows.length rc, .int .i64 count, .int .u64 (rindex : Nat), .int .i64 hint] 87)).alloc (.cells #[.int .i64 kind, .int .i64 src, .int .i64 dst, .int .u64 (term : Nat), .int .u64 (index : Nat), .int .u64 (lterm : Nat), .slice fa es.length fc, .int .u64 (commit : Nat), .int .u64 (round : Nat), .bool ok, .int .i64 off, .slice ga data.length gc, .bool done, .int .u64 (client : Nat), .int .u64 (seq : Nat), .string sql, .int .u64 (rseq : Nat), .int .i64 rcl, .slice ka cols.length kc, .slice ma rows.length mc, .int .i64 count, .int .u64 (rindex : Nat), .int .i64 hint] 87)
  go_enter Tryd.func46, Tryd.ntmps46
  go_upto_region 1 with (fail)
  generalize World.alloc (World.alloc w _) _ = w1 at *
  generalize w.heap.size + 1 = nb at *
  generalize w.heap.size = mb at *
  have hcM := hM.cell
  have hlM := hM.lt
  have hcN := hN.cell
  have hlN := hN.lt
  as_aux_lemma =>
  go_upto_region 3 with (fail)
  clear hcM hcN
  as_aux_lemma =>
  go_cut [5, 6] (fun v5 v6 wx => ∃ p q : Nat, v5 = .pointer (some ⟨p, 0, none⟩) ∧ v6 = .pointer (some ⟨q, 0, none⟩) ∧ Blk wx p 85 #[.int .u64 (rseq : Nat), .int .i64 rcl, .slice ca cols.length cc, .slice ra rows.length rc, .int .i64 count, .int .u64 (rindex : Nat)] ∧ Blk wx q 85 #[.int .u64 (rseq : Nat), .int .i64 rcl, .slice ka cols.length kc, .slice ma rows.length mc, .int .i64 count, .int .u64 (rindex : Nat)] ∧ Keeps [] w1 wx)
  case first =>
    have hSw := rds2 hM.drew hN.drew
    refine startU [((1 : Nat), fun w0 : World => Blk w0 mb 87 #[.int .i64 kind, .int .i64 src, .int .i64 dst, .int .u64 (term : Nat), .int .u64 (index : Nat), .int .u64 (lterm : Nat), .slice ea es.length ec, .int .u64 (commit : Nat), .int .u64 (round : Nat), .bool ok, .int .i64 off, .slice da data.length dc, .bool done, .int .u64 (client : Nat), .int .u64 (seq : Nat), .string sql, .int .u64 (rseq : Nat), .int .i64 rcl, .slice ca cols.length cc, .slice ra rows.length rc, .int .i64 count, .int .u64 (rindex : Nat), .int .i64 hint]), ((3 : Nat), fun w0 : World => Blk w0 nb 87 #[.int .i64 kind, .int .i64 src, .int .i64 dst, .int .u64 (term : Nat), .int .u64 (index : Nat), .int .u64 (lterm : Nat), .slice fa es.length fc, .int .u64 (commit : Nat), .int .u64 (round : Nat), .bool ok, .int .i64 off, .slice ga data.length gc, .bool done, .int .u64 (client : Nat), .int .u64 (seq : Nat), .string sql, .int .u64 (rseq : Nat), .int .i64 rcl, .slice ka cols.length kc, .slice ma rows.length mc, .int .i64 count, .int .u64 (rindex : Nat), .int .i64 hint])] (by kernel_rfl) ?_
    refine takeU (i := 0) (v := ?_) rfl (by kernel_rfl) (fun _ _ _ h => h) (Or.inl ⟨by rfl, fun w0 hw0 => ?_⟩) (fun p hp _ => hSw p hp) ?_
    rotate_left
    · simp [Reads] at hw0
      go_simp
      try with_reducible rfl
    try go_simp
    refine takeU (i := 1) (v := .agg #[.int .u64 (rseq : Nat), .int .i64 rcl, .slice ca cols.length cc, .slice ra rows.length rc, .int .i64 count, .int .u64 (rindex : Nat)]) rfl (by kernel_rfl) (fun _ _ _ h => h) (Or.inl ⟨by rfl, fun w0 hw0 => ?_⟩) (fun p hp _ => hSw p hp) ?_
    · simp [Reads] at hw0
      exact load_yieldsW 85 (.tmp 110) rfl mb 16 6 rfl 87 _ _ hw0 Tryd.underlying85 rfl Tryd.sizeRP (by simp) _ rfl
    refine takeU (i := 2) (v := ?_) rfl (by kernel_rfl) (fun _ _ _ h => h) (Or.inl ⟨by rfl, fun w0 hw0 => ?_⟩) (fun p hp _ => hSw p hp) ?_
    rotate_left
    · simp [Reads] at hw0
      go_simp
      try with_reducible rfl
    try go_simp
    refine takeU (i := 3) (v := .agg #[.int .u64 (rseq : Nat), .int .i64 rcl, .slice ka cols.length kc, .slice ma rows.length mc, .int .i64 count, .int .u64 (rindex : Nat)]) rfl (by kernel_rfl) (fun _ _ _ h => h) (Or.inl ⟨by rfl, fun w0 hw0 => ?_⟩) (fun p hp _ => hSw p hp) ?_
    · simp [Reads] at hw0
      exact load_yieldsW 85 (.tmp 112) rfl nb 16 6 rfl 87 _ _ hw0 Tryd.underlying85 rfl Tryd.sizeRP (by simp) _ rfl
    have hs1 : (w1.drew).heap.size = w1.heap.size := rfl
    refine twoU (i := 4) (j := 5) rfl rfl (by kernel_rfl) (fun K hK => ?_) (fun K hK => ?_)
    · as_aux_lemma =>
      go_simp
      have hM2 := hM.drew.alloc (.cells #[.int .u64 0, .int .i64 0, .slice none 0 0, .slice none 0 0, .int .i64 0, .int .u64 0] 85)
      have hN2 := hN.drew.alloc (.cells #[.int .u64 0, .int .i64 0, .slice none 0 0, .slice none 0 0, .int .i64 0, .int .u64 0] 85)
      have hF1 := Blk.fresh w1.drew 85 #[.int .u64 0, .int .i64 0, .slice none 0 0, .slice none 0 0, .int .i64 0, .int .u64 0]
      have hF2 := Blk.fresh_at (w1.drew.alloc (.cells #[.int .u64 0, .int .i64 0, .slice none 0 0, .slice none 0 0, .int .i64 0, .int .u64 0] 85)) 85 #[.int .u64 0, .int .i64 0, .slice none 0 0, .slice none 0 0, .int .i64 0, .int .u64 0] (n := w1.heap.size + 1) (by simp)
      have hk2 := ((Keeps.refl [] w1).drew).alloc (.cells #[.int .u64 0, .int .i64 0, .slice none 0 0, .slice none 0 0, .int .i64 0, .int .u64 0] 85)
      refine hK _ _ (fun p hp _ _ => rds2 hM2 hN2 p hp) ?_
      clear hK K
      change wpAnyU _ _ _ _ _ _ _ _ (World.alloc (World.drew _) _)
      refine oneU (i := 5) rfl (by kernel_rfl) (fun K hK => ?_)
      go_simp
      have hM3 := hM2.alloc (.cells #[.int .u64 0, .int .i64 0, .slice none 0 0, .slice none 0 0, .int .i64 0, .int .u64 0] 85)
      have hN3 := hN2.alloc (.cells #[.int .u64 0, .int .i64 0, .slice none 0 0, .slice none 0 0, .int .i64 0, .int .u64 0] 85)
      have hF1 := hF1.alloc (.cells #[.int .u64 0, .int .i64 0, .slice none 0 0, .slice none 0 0, .int .i64 0, .int .u64 0] 85)
      have hk3 := hk2.alloc (.cells #[.int .u64 0, .int .i64 0, .slice none 0 0, .slice none 0 0, .int .i64 0, .int .u64 0] 85)
      refine hK _ _ (fun p hp _ _ => rds2 hM3 hN3 p hp) ?_
      clear hK K
      change wpAnyU _ _ _ _ _ _ _ _ (World.alloc (World.alloc (World.drew _) _) _)
      generalize World.alloc (World.alloc (World.drew w1) _) _ = w3 at *
      clear hM2 hN2 hk2
      have hP : Blk w3 (w1.heap.size) 85 #[.int .u64 0, .int .i64 0, .slice none 0 0, .slice none 0 0, .int .i64 0, .int .u64 0] := hF1
      have hQ : Blk w3 (w1.heap.size + 1) 85 #[.int .u64 0, .int .i64 0, .slice none 0 0, .slice none 0 0, .int .i64 0, .int .u64 0] := hF2
      have hpm : mb ≠ w1.heap.size ∧ nb ≠ w1.heap.size ∧ mb ≠ w1.heap.size + 1 ∧ nb ≠ w1.heap.size + 1 ∧ w1.heap.size ≠ w1.heap.size + 1 ∧ w1.heap.size ≤ w1.heap.size ∧ w1.heap.size ≤ w1.heap.size + 1 := by omega
      clear hF1 hF2
      generalize w1.heap.size + 1 = q at *
      generalize hps : w1.heap.size = p at *
      refine oneU (i := 6) rfl (by kernel_rfl) (fun K hK => ?_)
      refine step_store_aggW rfl rfl 85 (.tmp 5) (.tmp 111) rfl p 0 rfl ((#[.int .u64 (rseq : Nat), .int .i64 rcl, .slice ca cols.length cc, .slice ra rows.length rc, .int .i64 count, .int .u64 (rindex : Nat)] : Array Value).toList) rfl 85 #[.int .u64 0, .int .i64 0, .slice none 0 0, .slice none 0 0, .int .i64 0, .int .u64 0] hP Tryd.sizeRP (by simp) rfl #[.int .u64 (rseq : Nat), .int .i64 rcl, .slice ca cols.length cc, .slice ra rows.length rc, .int .i64 count, .int .u64 (rindex : Nat)] rfl ?_
      intro w4 hP4 hk4
      have hM4 := hM3.keep hk4 (by simpa using hpm.1)
      have hN4 := hN3.keep hk4 (by simpa using hpm.2.1)
      have hQ4 := hQ.keep hk4 (by simpa using fun e => hpm.2.2.2.2.1 e.symm)
      refine hK _ _ (fun p hp _ _ => rds2 hM4 hN4 p hp) ?_
      clear hK K
      refine oneU (i := 7) rfl (by kernel_rfl) (fun K hK => ?_)
      refine step_store_aggW rfl rfl 85 (.tmp 6) (.tmp 113) rfl q 0 rfl ((#[.int .u64 (rseq : Nat), .int .i64 rcl, .slice ka cols.length kc, .slice ma rows.length mc, .int .i64 count, .int .u64 (rindex : Nat)] : Array Value).toList) rfl 85 #[.int .u64 0, .int .i64 0, .slice none 0 0, .slice none 0 0, .int .i64 0, .int .u64 0] hQ4 Tryd.sizeRP (by simp) rfl #[.int .u64 (rseq : Nat), .int .i64 rcl, .slice ka cols.length kc, .slice ma rows.length mc, .int .i64 count, .int .u64 (rindex : Nat)] rfl ?_
      intro w5 hQ5 hk5
      have hM5 := hM4.keep hk5 (by simpa using hpm.2.2.1)
      have hN5 := hN4.keep hk5 (by simpa using hpm.2.2.2.1)
      have hP5 := hP4.keep hk5 (by simpa using hpm.2.2.2.2.1)
      refine hK _ _ (fun p hp _ _ => rds2 hM5 hN5 p hp) ?_
      clear hK K
      refine doneU (by kernel_rfl) ?_
      go_wp2_with fail
      go_meet
      exact ⟨p, q, rfl, rfl, hP5, hQ5, (hk3.step hk4 (fun x hx => by simp at hx; right; omega)).step hk5 (fun x hx => by simp at hx; right; omega)⟩
    · as_aux_lemma =>
      go_simp
      have hM2 := hM.drew.alloc (.cells #[.int .u64 0, .int .i64 0, .slice none 0 0, .slice none 0 0, .int .i64 0, .int .u64 0] 85)
      have hN2 := hN.drew.alloc (.cells #[.int .u64 0, .int .i64 0, .slice none 0 0, .slice none 0 0, .int .i64 0, .int .u64 0] 85)
      have hF1 := Blk.fresh w1.drew 85 #[.int .u64 0, .int .i64 0, .slice none 0 0, .slice none 0 0, .int .i64 0, .int .u64 0]
      have hF2 := Blk.fresh_at (w1.drew.alloc (.cells #[.int .u64 0, .int .i64 0, .slice none 0 0, .slice none 0 0, .int .i64 0, .int .u64 0] 85)) 85 #[.int .u64 0, .int .i64 0, .slice none 0 0, .slice none 0 0, .int .i64 0, .int .u64 0] (n := w1.heap.size + 1) (by simp)
      have hk2 := ((Keeps.refl [] w1).drew).alloc (.cells #[.int .u64 0, .int .i64 0, .slice none 0 0, .slice none 0 0, .int .i64 0, .int .u64 0] 85)
      refine hK _ _ (fun p hp _ _ => rds2 hM2 hN2 p hp) ?_
      clear hK K
      change wpAnyU _ _ _ _ _ _ _ _ (World.alloc (World.drew _) _)
      refine oneU (i := 4) rfl (by kernel_rfl) (fun K hK => ?_)
      go_simp
      have hM3 := hM2.alloc (.cells #[.int .u64 0, .int .i64 0, .slice none 0 0, .slice none 0 0, .int .i64 0, .int .u64 0] 85)
      have hN3 := hN2.alloc (.cells #[.int .u64 0, .int .i64 0, .slice none 0 0, .slice none 0 0, .int .i64 0, .int .u64 0] 85)
      have hF1 := hF1.alloc (.cells #[.int .u64 0, .int .i64 0, .slice none 0 0, .slice none 0 0, .int .i64 0, .int .u64 0] 85)
      have hk3 := hk2.alloc (.cells #[.int .u64 0, .int .i64 0, .slice none 0 0, .slice none 0 0, .int .i64 0, .int .u64 0] 85)
      refine hK _ _ (fun p hp _ _ => rds2 hM3 hN3 p hp) ?_
      clear hK K
      change wpAnyU _ _ _ _ _ _ _ _ (World.alloc (World.alloc (World.drew _) _) _)
      generalize World.alloc (World.alloc (World.drew w1) _) _ = w3 at *
      clear hM2 hN2 hk2
      have hP : Blk w3 (w1.heap.size + 1) 85 #[.int .u64 0, .int .i64 0, .slice none 0 0, .slice none 0 0, .int .i64 0, .int .u64 0] := hF2
      have hQ : Blk w3 (w1.heap.size) 85 #[.int .u64 0, .int .i64 0, .slice none 0 0, .slice none 0 0, .int .i64 0, .int .u64 0] := hF1
      have hpm : mb ≠ w1.heap.size + 1 ∧ nb ≠ w1.heap.size + 1 ∧ mb ≠ w1.heap.size ∧ nb ≠ w1.heap.size ∧ w1.heap.size + 1 ≠ w1.heap.size ∧ w1.heap.size ≤ w1.heap.size + 1 ∧ w1.heap.size ≤ w1.heap.size := by omega
      clear hF1 hF2
      generalize w1.heap.size + 1 = p at *
      generalize hqs : w1.heap.size = q at *
      refine oneU (i := 6) rfl (by kernel_rfl) (fun K hK => ?_)
      refine step_store_aggW rfl rfl 85 (.tmp 5) (.tmp 111) rfl p 0 rfl ((#[.int .u64 (rseq : Nat), .int .i64 rcl, .slice ca cols.length cc, .slice ra rows.length rc, .int .i64 count, .int .u64 (rindex : Nat)] : Array Value).toList) rfl 85 #[.int .u64 0, .int .i64 0, .slice none 0 0, .slice none 0 0, .int .i64 0, .int .u64 0] hP Tryd.sizeRP (by simp) rfl #[.int .u64 (rseq : Nat), .int .i64 rcl, .slice ca cols.length cc, .slice ra rows.length rc, .int .i64 count, .int .u64 (rindex : Nat)] rfl ?_
      intro w4 hP4 hk4
      have hM4 := hM3.keep hk4 (by simpa using hpm.1)
      have hN4 := hN3.keep hk4 (by simpa using hpm.2.1)
      have hQ4 := hQ.keep hk4 (by simpa using fun e => hpm.2.2.2.2.1 e.symm)
      refine hK _ _ (fun p hp _ _ => rds2 hM4 hN4 p hp) ?_
      clear hK K
      refine oneU (i := 7) rfl (by kernel_rfl) (fun K hK => ?_)
      refine step_store_aggW rfl rfl 85 (.tmp 6) (.tmp 113) rfl q 0 rfl ((#[.int .u64 (rseq : Nat), .int .i64 rcl, .slice ka cols.length kc, .slice ma rows.length mc, .int .i64 count, .int .u64 (rindex : Nat)] : Array Value).toList) rfl 85 #[.int .u64 0, .int .i64 0, .slice none 0 0, .slice none 0 0, .int .i64 0, .int .u64 0] hQ4 Tryd.sizeRP (by simp) rfl #[.int .u64 (rseq : Nat), .int .i64 rcl, .slice ka cols.length kc, .slice ma rows.length mc, .int .i64 count, .int .u64 (rindex : Nat)] rfl ?_
      intro w5 hQ5 hk5
      have hM5 := hM4.keep hk5 (by simpa using hpm.2.2.1)
      have hN5 := hN4.keep hk5 (by simpa using hpm.2.2.2.1)
      have hP5 := hP4.keep hk5 (by simpa using hpm.2.2.2.2.1)
      refine hK _ _ (fun p hp _ _ => rds2 hM5 hN5 p hp) ?_
      clear hK K
      refine doneU (by kernel_rfl) ?_
      go_wp2_with fail
      go_meet
      exact ⟨p, q, rfl, rfl, hP5, hQ5, (hk3.step hk4 (fun x hx => by simp at hx; right; omega)).step hk5 (fun x hx => by simp at hx; right; omega)⟩
  case rest =>
  obtain ⟨p, q, rfl, rfl, hP, hQ, hk2⟩ := hcut
  have hM2 := hM.keep hk2 (by simp)
  have hN2 := hN.keep hk2 (by simp)
  have hk02 := hk.trans hk2
  clear hM hN hk hk2 hlM hlN
  have hcM := hM2.cell
  have hlM := hM2.lt
  have hcN := hN2.cell
  have hlN := hN2.lt
  have B := bytes_any da ga dc gc data data wc (HD.out.1.keep0 hk02) (HD.out.2.keep0 hk02)
  rw [beq_self_eq_true] at B
  as_aux_lemma =>
  go_wp2_with fail
  refine B.mono ?_
  rintro e w' ⟨rfl, hw⟩
  obtain rfl := hw.symm
  clear hw B HD
  go_wp2_with fail
  refine (entries_eq ea fa ec fc es _ (HE.out.1.keep0 hk02) (HE.out.2.keep0 hk02)).mono ?_
  rintro e w6 ⟨rfl, hk6⟩
  have hP6 := hP.keep hk6 (by simp)
  have hQ6 := hQ.keep hk6 (by simp)
  have hk06 := hk02.trans hk6
  clear hP hQ hM2 hN2 hk02 hk6 hcM hlM hcN hlN HE
  have hcP := hP6.cell
  have hlP := hP6.lt
  have hcQ := hQ6.cell
  have hlQ := hQ6.lt
  go_wp2_with (first
    | (refine wpList_load_aggG rfl 83 _ rfl p 2 3 rfl 85 _ _ hP6 Tryd.underlying83 rfl Tryd.sizeAN (by simp) #[.slice ca cols.length cc, .slice ra rows.length rc, .int .i64 count] rfl ?_)
    | (refine wpList_load_aggG rfl 83 _ rfl q 2 3 rfl 85 _ _ hQ6 Tryd.underlying83 rfl Tryd.sizeAN (by simp) #[.slice ka cols.length kc, .slice ma rows.length mc, .int .i64 count] rfl ?_))
  refine (answers_eq ca ka ra ma cc kc rc mc cols rows count _ (HC.out.1.keep0 hk06) (HC.out.2.keep0 hk06) (HR.out.1.keep hk06) (HR.out.2.keep hk06)).mono ?_
  rintro e w7 ⟨rfl, hk7⟩
  go_wp2_with fail
  go_ret
  exact ⟨rfl, hk06.trans hk7⟩
end Go.Proofs.YtcaahgjepkcenaaDoor
/- A message that comes in. -/
namespace Go.Proofs.YtcaahgjepkcenaaDoor
open Go.RowKit

theorem in_one_bool : Tryd.prog.cellsOf 4 = 1 := by kernel_rfl
theorem in_one_es : Tryd.prog.cellsOf 59 = 1 := by kernel_rfl
theorem in_one_bs : Tryd.prog.cellsOf 24 = 1 := by kernel_rfl
theorem in_one_ss : Tryd.prog.cellsOf 81 = 1 := by kernel_rfl
theorem in_one_vss : Tryd.prog.cellsOf 58 = 1 := by kernel_rfl
theorem in_one_cls : Tryd.prog.cellsOf 80 = 1 := by kernel_rfl
theorem in_rep6 : Tryd.prog.cellsOf 85 = 6 := by kernel_rfl
theorem in_ans3 : Tryd.prog.cellsOf 83 = 3 := by kernel_rfl
theorem in_msg23 : Tryd.prog.cellsOf 87 = 23 := by kernel_rfl

section
variable {H : Type} {enc : TypeId × Value → H} {w : World}
theorem texts_in {a : Option Addr} {len cap : Nat} (h : Rd enc w 81 [.slice a len cap]) : ∃ l : List ByteArray, l.length = len ∧ Rc w a cap l := by
  obtain ⟨l, hl, hq, hS⟩ := sl_in h Tryd.underlying81 in_one_string (by omega) (⟨#[]⟩ : ByteArray) (fun s => [Value.string s]) (fun _ => True) (fun _ => rfl)
    (by intro v u hu; simp at hu; subst hu; rfl) (fun cs hc => by
      obtain ⟨s, rfl, _⟩ := hc.string Tryd.underlying9
      exact ⟨s, rfl, trivial⟩)
  subst hl
  have e : (l.map fun s => [Value.string s]).flatten = l.map fun s => Value.string s := by
    clear hS h hq
    induction l with
    | nil => rfl
    | cons x l ih => rw [List.map_cons, List.flatten_cons, ih]; rfl
  rw [e] at hS
  exact ⟨l, rfl, hS⟩

set_option maxHeartbeats 1000000 in
theorem msg_in {cs : List Value} (h : Rd enc w 87 cs) : ∃ d a, cs = (msgCells d a).toList ∧ MsgAt w d a ∧ d.Nums := by
  obtain ⟨hl, hs⟩ := h.struct Tryd.underlying87
  rw [in_msg23] at hl
  obtain ⟨c0, l0, rfl, e0⟩ := in_cons hl
  obtain ⟨c1, l1, rfl, e1⟩ := in_cons e0
  obtain ⟨c2, l2, rfl, e2⟩ := in_cons e1
  obtain ⟨c3, l3, rfl, e3⟩ := in_cons e2
  obtain ⟨c4, l4, rfl, e4⟩ := in_cons e3
  obtain ⟨c5, l5, rfl, e5⟩ := in_cons e4
  obtain ⟨c6, l6, rfl, e6⟩ := in_cons e5
  obtain ⟨c7, l7, rfl, e7⟩ := in_cons e6
  obtain ⟨c8, l8, rfl, e8⟩ := in_cons e7
  obtain ⟨c9, l9, rfl, e9⟩ := in_cons e8
  obtain ⟨c10, l10, rfl, e10⟩ := in_cons e9
  obtain ⟨c11, l11, rfl, e11⟩ := in_cons e10
  obtain ⟨c12, l12, rfl, e12⟩ := in_cons e11
  obtain ⟨c13, l13, rfl, e13⟩ := in_cons e12
  obtain ⟨c14, l14, rfl, e14⟩ := in_cons e13
  obtain ⟨c15, l15, rfl, e15⟩ := in_cons e14
  obtain ⟨c16, l16, rfl, e16⟩ := in_cons e15
  obtain ⟨c17, l17, rfl, e17⟩ := in_cons e16
  obtain ⟨c18, l18, rfl, e18⟩ := in_cons e17
  obtain ⟨c19, l19, rfl, e19⟩ := in_cons e18
  obtain ⟨c20, l20, rfl, e20⟩ := in_cons e19
  obtain ⟨c21, l21, rfl, e21⟩ := in_cons e20
  obtain ⟨c22, l22, rfl, e22⟩ := in_cons e21
  obtain rfl := List.eq_nil_of_length_eq_zero e22
  have k0 : Rd enc w 3 [c0] := by have := hs 0 _ rfl; simpa [in_one_int] using this
  have k1 : Rd enc w 3 [c1] := by have := hs 1 _ rfl; simpa [in_one_int] using this
  have k2 : Rd enc w 3 [c2] := by have := hs 2 _ rfl; simpa [in_one_int] using this
  have k3 : Rd enc w 22 [c3] := by have := hs 3 _ rfl; simpa [in_one_u64] using this
  have k4 : Rd enc w 22 [c4] := by have := hs 4 _ rfl; simpa [in_one_u64] using this
  have k5 : Rd enc w 22 [c5] := by have := hs 5 _ rfl; simpa [in_one_u64] using this
  have k6 : Rd enc w 59 [c6] := by have := hs 6 _ rfl; simpa [in_one_es] using this
  have k7 : Rd enc w 22 [c7] := by have := hs 7 _ rfl; simpa [in_one_u64] using this
  have k8 : Rd enc w 22 [c8] := by have := hs 8 _ rfl; simpa [in_one_u64] using this
  have k9 : Rd enc w 4 [c9] := by have := hs 9 _ rfl; simpa [in_one_bool] using this
  have k10 : Rd enc w 3 [c10] := by have := hs 10 _ rfl; simpa [in_one_int] using this
  have k11 : Rd enc w 24 [c11] := by have := hs 11 _ rfl; simpa [in_one_bs] using this
  have k12 : Rd enc w 4 [c12] := by have := hs 12 _ rfl; simpa [in_one_bool] using this
  have k13 : Rd enc w 22 [c13] := by have := hs 13 _ rfl; simpa [in_one_u64] using this
  have k14 : Rd enc w 22 [c14] := by have := hs 14 _ rfl; simpa [in_one_u64] using this
  have k15 : Rd enc w 9 [c15] := by have := hs 15 _ rfl; simpa [in_one_string] using this
  have kR : Rd enc w 85 [c16, c17, c18, c19, c20, c21] := by have := hs 16 _ rfl; simpa [in_rep6] using this
  have k22 : Rd enc w 3 [c22] := by have := hs 17 _ rfl; simpa [in_one_int] using this
  obtain ⟨-, hr⟩ := kR.struct Tryd.underlying85
  have k16 : Rd enc w 22 [c16] := by have := hr 0 _ rfl; simpa [in_one_u64] using this
  have k17 : Rd enc w 80 [c17] := by have := hr 1 _ rfl; simpa [in_one_cls] using this
  have kA : Rd enc w 83 [c18, c19, c20] := by have := hr 2 _ rfl; simpa [in_ans3] using this
  have k21 : Rd enc w 22 [c21] := by have := hr 3 _ rfl; simpa [in_one_u64] using this
  obtain ⟨-, ha⟩ := kA.struct Tryd.underlying83
  have k18 : Rd enc w 81 [c18] := by have := ha 0 _ rfl; simpa [in_one_ss] using this
  have k19 : Rd enc w 58 [c19] := by have := ha 1 _ rfl; simpa [in_one_vss] using this
  have k20 : Rd enc w 3 [c20] := by have := ha 2 _ rfl; simpa [in_one_int] using this
  obtain ⟨kind, x0, -⟩ := k0.int Tryd.underlying3
  obtain ⟨src, x1, -⟩ := k1.int Tryd.underlying3
  obtain ⟨dst, x2, -⟩ := k2.int Tryd.underlying3
  obtain ⟨z3, x3, b3⟩ := k3.int Tryd.underlying22
  replace b3 := bounds_u64 b3
  obtain ⟨term, rfl⟩ := Int.eq_ofNat_of_zero_le b3.1
  obtain ⟨z4, x4, b4⟩ := k4.int Tryd.underlying22
  replace b4 := bounds_u64 b4
  obtain ⟨index, rfl⟩ := Int.eq_ofNat_of_zero_le b4.1
  obtain ⟨z5, x5, b5⟩ := k5.int Tryd.underlying22
  replace b5 := bounds_u64 b5
  obtain ⟨lterm, rfl⟩ := Int.eq_ofNat_of_zero_le b5.1
  obtain ⟨ea, en, ec, x6, -⟩ := k6.slice Tryd.underlying59 in_ent5 (by omega)
  obtain ⟨z7, x7, b7⟩ := k7.int Tryd.underlying22
  replace b7 := bounds_u64 b7
  obtain ⟨commit, rfl⟩ := Int.eq_ofNat_of_zero_le b7.1
  obtain ⟨z8, x8, b8⟩ := k8.int Tryd.underlying22
  replace b8 := bounds_u64 b8
  obtain ⟨round, rfl⟩ := Int.eq_ofNat_of_zero_le b8.1
  obtain ⟨ok, x9⟩ := k9.bool Tryd.underlying4
  obtain ⟨off, x10, -⟩ := k10.int Tryd.underlying3
  obtain ⟨da, dn, dc, x11, -⟩ := k11.slice Tryd.underlying24 in_one_u8 (by omega)
  obtain ⟨done, x12⟩ := k12.bool Tryd.underlying4
  obtain ⟨z13, x13, b13⟩ := k13.int Tryd.underlying22
  replace b13 := bounds_u64 b13
  obtain ⟨client, rfl⟩ := Int.eq_ofNat_of_zero_le b13.1
  obtain ⟨z14, x14, b14⟩ := k14.int Tryd.underlying22
  replace b14 := bounds_u64 b14
  obtain ⟨seq, rfl⟩ := Int.eq_ofNat_of_zero_le b14.1
  obtain ⟨sql, x15, -⟩ := k15.string Tryd.underlying9
  obtain ⟨z16, x16, b16⟩ := k16.int Tryd.underlying22
  replace b16 := bounds_u64 b16
  obtain ⟨rseq, rfl⟩ := Int.eq_ofNat_of_zero_le b16.1
  obtain ⟨rcl, x17, -⟩ := k17.int Tryd.underlying80
  obtain ⟨ca, cn, cc, x18, -⟩ := k18.slice Tryd.underlying81 in_one_string (by omega)
  obtain ⟨ra, rn, rc, x19, -⟩ := k19.slice Tryd.underlying58 in_one_vs (by omega)
  obtain ⟨count, x20, -⟩ := k20.int Tryd.underlying3
  obtain ⟨z21, x21, b21⟩ := k21.int Tryd.underlying22
  replace b21 := bounds_u64 b21
  obtain ⟨rindex, rfl⟩ := Int.eq_ofNat_of_zero_le b21.1
  obtain ⟨hint, x22, -⟩ := k22.int Tryd.underlying3
  simp only [List.cons.injEq, and_true] at x0 x1 x2 x3 x4 x5 x6 x7 x8 x9 x10 x11 x12 x13 x14 x15 x16 x17 x18 x19 x20 x21 x22
  subst x0 x1 x2 x3 x4 x5 x6 x7 x8 x9 x10 x11 x12 x13 x14 x15 x16 x17 x18 x19 x20 x21 x22
  obtain ⟨es, hen, hnum, hE⟩ := ents_in k6
  subst hen
  obtain ⟨data, hdn, hD⟩ := rb_in k11
  subst hdn
  obtain ⟨cols, hcn, hC⟩ := texts_in k18
  subst hcn
  obtain ⟨rs, hrn, hrA, hR⟩ := rows_in k19
  subst hrn
  refine ⟨⟨kind, src, dst, term, index, lterm, es, commit, round, ok, off, data, done, client, seq, sql, rseq, rcl, cols, rs.map (·.l), count, rindex, hint⟩, ⟨ea, ec, da, dc, ca, cc, ra, rc⟩, by simp, ⟨hE, hD, hC, rs, rfl, hR, hrA⟩, ?_⟩
  constructor
  all_goals first | exact hnum | (simp only []; omega)
end
end Go.Proofs.YtcaahgjepkcenaaDoor
/- WireMessages: the walk. -/

namespace Go.Proofs.YtcaahgjepkcenaaDoor
open Go.RowKit Go.Lib

theorem flat_le {α : Type} (f : α → List UInt8) (B : Nat) : ∀ l : List α, (∀ x ∈ l, (f x).length ≤ B) → ((l.map f).flatten).length ≤ l.length * B
  | [], _ => by simp
  | x :: l, h => by
    have h1 := h x List.mem_cons_self
    have h2 := flat_le f B l (fun y hy => h y (List.mem_cons_of_mem x hy))
    rw [List.map_cons, List.flatten_cons, List.length_append, List.length_cons, Nat.succ_mul]
    omega
theorem putMd_le (d : Md) (hm : d.may = true) (hs : d.lsmall = true) (hn : d.Nums) (hw : ∀ l ∈ d.rows, Wf l) : (putMd d).length ≤ 1000000 := by
  unfold Md.may Md.own inB at hm
  simp only [Bool.and_eq_true, decide_eq_true_eq, List.all_eq_true] at hm
  obtain ⟨⟨⟨⟨⟨⟨⟨⟨⟨⟨⟨⟨⟨⟨hk0, b1⟩, b2⟩, b3⟩, b4⟩, b5⟩, b6⟩, b7⟩, b8⟩, b9⟩, b10⟩, b11⟩, he⟩, hc⟩, hr⟩ := hm
  unfold Md.lsmall small shortB at hs
  simp only [Bool.and_eq_true, decide_eq_true_eq] at hs
  obtain ⟨⟨⟨⟨⟨z1, z2⟩, z3⟩, z4⟩, z5⟩, z6⟩ := hs
  replace z1 := z1.2
  have e1 : (esB d.es).length ≤ d.es.length * 3300 := flat_le putE 3300 d.es (fun x hx => putE_le x (he x hx) (hn.es x hx).1 (hn.es x hx).2.1 (hn.es x hx).2.2)
  have e2 : (colB d.cols).length ≤ d.cols.length * 2010 := flat_le txt 2010 d.cols (fun x hx => txt_len x (hc x hx))
  have e3 : (rowB d.rows).length ≤ d.rows.length * 3300 := flat_le putRow 3300 d.rows (fun x hx => putRow_le x (hr x hx) (hw x hx))
  have e4 := txt_len d.sql b3
  have n1 := hn.term
  have n2 := hn.index
  have n3 := hn.lterm
  have n4 := hn.commit
  have n5 := hn.round
  have n6 := hn.client
  have n7 := hn.seq
  have n8 := hn.rseq
  have n9 := hn.rindex
  have u1 := us_len [(d.src + 1).toNat, (d.dst + 1).toNat, (d.hint + 1).toNat, d.term, d.index, d.lterm, d.commit, d.round, d.off.toNat, d.client, d.seq] (by intro n h; simp at h; omega)
  have u2 := us_len [d.data.length] (by intro n h; simp at h; omega)
  have u3 := us_len [d.es.length] (by intro n h; simp at h; omega)
  have u4 := us_len [d.rseq, d.rcl.toNat, d.rindex, d.count.toNat, d.cols.length] (by intro n h; simp at h; omega)
  have u5 := us_len [d.rows.length] (by intro n h; simp at h; omega)
  simp only [List.length_cons, List.length_nil] at u1 u2 u3 u4 u5
  unfold putMd putHd
  simp only [List.length_append, List.length_cons, List.length_nil]
  omega

theorem ErrQ.keep {w w' : World} {ev : Value} {f : Nat} (h : ErrQ w ev f) (hk : Keeps [] w w') : ErrQ w' ev f := by
  cases h with
  | base h => exact .base (h.keep hk)
  | placed he hB h h0 => exact .placed he (hB.keep hk (by simp)) (h.keep hk) h0
theorem wpList_builtG {P : Program} {ops : Array Oper} {rest : List Oper} {o : Oper} {a : Act} {w : World} {Q : Exit → Act → World → Prop} (hw : Region.wanted o (yielded ops a.tmps) = true) (t : TypeId) (parts : Array (Nat × Operand)) (ho : o.op = .build t parts)
    (l : List (Nat × Value)) (cells : Array Value) (hb : P.built t l = some cells) (hl : parts.toList.map (fun p => (p.1, a.eval p.2)) = l)
    (h : wpList P ops Q rest (a.put o.dst (.agg cells)) w) : wpList P ops Q (o :: rest) a w := by
  refine BigFrame.wpList_want hw fun K hK => ?_
  have e : (parts.map fun (i, x) => (i, a.eval x)).toList = l := by
    rw [Array.toList_map]
    exact hl
  exact wp_build t parts ho (by rw [e, hb]; rfl) (by rw [e, hb]; exact hK _ _ h)
theorem store_all (cs cs' : Array Value) (h : cs.size = cs'.size) : (cs.toList.take 0 ++ cs'.toList ++ cs.toList.drop (0 + cs'.toList.length)).toArray = cs' := by
  rw [List.drop_eq_nil_of_le (by simp; omega)]
  simp
theorem zm_cells : msgCells zeroMd zeroMa = #[.int .i64 0, .int .i64 0, .int .i64 0, .int .u64 0, .int .u64 0, .int .u64 0, .slice none 0 0, .int .u64 0, .int .u64 0, .bool false, .int .i64 0, .slice none 0 0, .bool false, .int .u64 0, .int .u64 0, .string ⟨#[]⟩, .int .u64 0, .int .i64 0, .slice none 0 0, .slice none 0 0, .int .i64 0, .int .u64 0, .int .i64 0] := rfl

set_option maxRecDepth 100000 in
set_option maxHeartbeats 8000000 in
theorem messages_any (d : Md) (a : Ma) (pl : Int) (by' : Nat) (cut : Int) (w : World) (hg : (w).cell? ⟨0, 0, none⟩ = some (.iface 153 (.agg #[.pointer (some ⟨2, 27, none⟩)]))) (h : MsgAt w d a) (hn : d.Nums) (hy : by' < 256) :
    Calls Tryd.prog 9 #[.agg (msgCells d a), .int .i64 pl, .int .u8 (by' : Nat), .int .i64 cut] w fun e w' => e = .returned (.bool true) ∧ Keeps [] w w' := by
  obtain ⟨i, z, hi, hz, hsz, hby, hzc⟩ := infoB
  have hwf : ∀ l ∈ d.rows, Wf l := by
    obtain ⟨rs, q1, q2, q3⟩ := h.rows
    intro x hx
    rw [← q1] at hx
    obtain ⟨r, hr, rfl⟩ := List.mem_map.1 hx
    exact (q3 r hr).2
  have L1 := fun W (hW : MsgAt W d a) => lsmall_any d a W hW
  have L2 := fun W (hW : MsgAt W d a) => putMsg_any d a W hW hn
  have L3 := fun W (hW : MsgAt W d a) hs => lmay_any d a W hW hn hs
  have L4 := fun W b (hW : MsgAt W d b) (hW2 : MsgAt W d a) => same_any d b a W hW hW2
  obtain ⟨cs, hcs⟩ : ∃ cs, cs = msgCells d a := ⟨_, rfl⟩
  have hcsz : cs.size = 23 := by rw [hcs]; rfl
  rw [← hcs] at L1 L2 L3 L4
  rw [← hcs]
  have HL1 := Lib.hid L1
  have HL2 := Lib.hid L2
  have HL3 := Lib.hid L3
  have HL4 := Lib.hid L4
  have HH := Lib.hid h
  have HG := Lib.hid hg
  have HWF := Lib.hid hwf
  have HN := Lib.hid hn
  clear L1 L2 L3 L4 h hwf hcs hg hn
  have hM := Blk.fresh w 87 cs
  have hk := (Keeps.refl [] w).alloc (.cells cs 87)
  go_enter Tryd.func9, Tryd.ntmps9
  go_upto_region 1 with (fail)
  generalize World.alloc w _ = w1 at *
  generalize hmb : w.heap.size = mb at *
  go_wp2_with fail
  refine (wknown w1 (hk.cellSome HG.out (by simp))).mono ?_
  rintro e w2 ⟨rfl, hk2⟩
  replace hM := hM.keep hk2 (by simp)
  replace hk := hk.trans hk2
  clear hk2
  go_wp2_with (refine wpList_load_agg rfl 87 _ rfl mb 0 23 ?_ 87 cs _ hM Tryd.underlying87 rfl Tryd.sizeM ?_ cs ?_ ?_; rfl; omega; exact take23 cs hcsz)
  refine (HL1.out w2 (HH.out.keep hk)).mono ?_
  rintro e w3 ⟨rfl, hk3⟩
  replace hM := hM.keep hk3 (by simp)
  replace hk := hk.trans hk3
  clear hk3 HL1
  cases hs : d.lsmall with
  | false =>
    go_wp2_with fail
    go_ret
    exact ⟨rfl, hk⟩
  | true =>
  have P := HL2.out w3 (HH.out.keep hk)
  have Q := fun W hW => HL3.out W hW hs
  cases hmay : d.may with
  | false =>
    as_aux_lemma =>
    rw [hmay] at P Q
    simp only [Bool.false_eq_true, if_false] at P
    have HQ := Lib.hid Q
    clear Q HL3 HL2 HL4 hs hmay
    go_wp2_with (refine wpList_load_agg rfl 87 _ rfl mb 0 23 ?_ 87 cs _ hM Tryd.underlying87 rfl Tryd.sizeM ?_ cs ?_ ?_; rfl; omega; exact take23 cs hcsz)
    refine P.mono ?_
    rintro e w4 ⟨bo, bc, ev, rfl, hO, hE, hk4⟩
    replace hM := hM.keep hk4 (by simp)
    replace hk := hk.trans hk4
    clear hk4 P
    go_wp2_with (refine wpList_load_agg rfl 87 _ rfl mb 0 23 ?_ 87 cs _ hM Tryd.underlying87 rfl Tryd.sizeM ?_ cs ?_ ?_; rfl; omega; exact take23 cs hcsz)
    refine (HQ.out w4 (HH.out.keep hk)).mono ?_
    rintro e w5 ⟨rfl, hk5⟩
    replace hk := hk.trans hk5
    replace hE := hE.keep hk5
    clear hk5
    go_wp2_with fail
    refine (classQ_any (hk.cellSome HG.out (by simp)) hE).mono ?_
    rintro e w6 ⟨rfl, hk6⟩
    go_wp2_with fail
    go_ret
    exact ⟨rfl, hk.trans hk6⟩
  | true =>
  rw [hmay] at P Q
  simp only [if_true] at P
  obtain ⟨bs, hbs⟩ : ∃ bs, bs = putMd d := ⟨_, rfl⟩
  have hbl : bs.length ≤ 1000000 := by rw [hbs]; exact putMd_le d hmay hs HN.out HWF.out
  have hok : MsgOk bs ∧ (rdMsg ⟨bs, 0, 0⟩).1 = d := by
    obtain ⟨n, hr⟩ := msg_put d hmay HN.out HWF.out
    rw [hbs]
    unfold MsgOk
    rw [hr]
    exact ⟨⟨rfl, rfl, hmay, rfl⟩, rfl⟩
  rw [← hbs] at P
  have HOK := Lib.hid hok
  have HQ := Lib.hid Q
  clear Q HL3 HL2 hs hmay hok hbs
  go_wp2_with (refine wpList_load_agg rfl 87 _ rfl mb 0 23 ?_ 87 cs _ hM Tryd.underlying87 rfl Tryd.sizeM ?_ cs ?_ ?_; rfl; omega; exact take23 cs hcsz)
  refine P.mono ?_
  rintro e w4 ⟨bo, bc, ev, rfl, hO, hE, hk4⟩
  obtain rfl := hE.zero.2 rfl
  replace hM := hM.keep hk4 (by simp)
  replace hk := hk.trans hk4
  clear hk4 P hE
  go_wp2_with (refine wpList_load_agg rfl 87 _ rfl mb 0 23 ?_ 87 cs _ hM Tryd.underlying87 rfl Tryd.sizeM ?_ cs ?_ ?_; rfl; omega; exact take23 cs hcsz)
  refine (HQ.out w4 (HH.out.keep hk)).mono ?_
  rintro e w5 ⟨rfl, hk5⟩
  replace hM := hM.keep hk5 (by simp)
  replace hk := hk.trans hk5
  replace hO := hO.keep0 hk5
  clear hk5 HQ
  as_aux_lemma =>
  have hmbN : mb ≤ w5.heap.size := hmb ▸ hk.size
  go_wp2_with (at_builtin; refine wpList_append_by _ rfl _ _ 24 24 rfl mb 5 i z 1 1 Tryd.underlying24 hi hz hsz hby hzc none _ 0 _ rfl (Own.nil _ _) _ rfl bs.length _ ((hO).rb.src Tryd.underlying24) (by unfold maxLen; omega) (by omega) hmbN ?_; intro a7 c7 w7 hO7 hka hba)
  have hA7 : Own w7 mb a7 c7 bs := Own.of hO7 rfl
  replace hM := hM.keep hka (by simp)
  replace hk := hk.trans hka
  replace hO := hO.keep0 hka
  clear hO7 hka hba hmbN
  refine (msg_any a7 c7 bs w7 hA7.rb (by omega)).mono ?_
  rintro e w8 ⟨d2, a2, ev2, rfl, hMA2, -, hk8, hcase⟩
  rcases hcase with ⟨rfl, -, hd2⟩ | ⟨-, hno, -⟩
  rotate_left
  · exact absurd HOK.out.1 hno
  obtain rfl : d2 = d := by rw [hd2]; exact HOK.out.2
  clear hd2
  replace hM := hM.keep hk8 (by simp)
  replace hk := hk.trans hk8
  replace hO := hO.keep0 hk8
  clear hk8 hA7
  have Q := fun W hW => HL4.out W a2 hW
  obtain ⟨cs2, hcs2⟩ : ∃ cs2, cs2 = msgCells d2 a2 := ⟨_, rfl⟩
  have hcsz2 : cs2.size = 23 := by rw [hcs2]; rfl
  have hone2 : cs2.toList.all Value.oneCell' = true := by rw [hcs2]; rfl
  rw [← hcs2] at Q
  rw [← hcs2]
  have HQ := Lib.hid Q
  have HONE := Lib.hid hone2
  clear Q HL4 hcs2 hone2
  go_upto_region 11 with (refine wpList_store_fresh rfl rfl 87 _ _ rfl w8.heap.size ?_ rfl cs2.toList ?_ _ _ ?_ ?_ ?_ ?_; rfl; rfl; (rw [Array.length_toList, hcsz2]; exact Tryd.sizeM); simp [hcsz2]; exact HONE.out)
  change Code.wp _ _ _ _ (World.alloc w8 (.cells cs2 87))
  have hX := Blk.fresh w8 87 cs2
  have hkA := (Keeps.refl [] w8).alloc (.cells cs2 87)
  have hmx : mb ≠ w8.heap.size := by have := hM.lt; omega
  have hxN : mb ≤ w8.heap.size := hmb ▸ hk.size
  replace hMA2 := hMA2.keep hkA
  replace hM := hM.keep hkA (by simp)
  replace hk := hk.trans hkA
  replace hO := hO.keep0 hkA
  clear hkA
  generalize World.alloc w8 _ = w9 at *
  generalize w8.heap.size = xb at *
  as_aux_lemma =>
  go_wp2_with (first
    | (refine wpList_load_aggG rfl 87 _ rfl xb 0 23 ?_ 87 cs2 _ hX Tryd.underlying87 rfl Tryd.sizeM ?_ cs2 ?_ ?_; rfl; omega; exact take23 cs2 hcsz2)
    | (refine wpList_load_aggG rfl 87 _ rfl mb 0 23 ?_ 87 cs _ hM Tryd.underlying87 rfl Tryd.sizeM ?_ cs ?_ ?_; rfl; omega; exact take23 cs hcsz))
  refine (HQ.out w9 hMA2 (HH.out.keep hk)).mono ?_
  rintro e w10 ⟨rfl, hk10⟩
  replace hX := hX.keep hk10 (by simp)
  replace hk := hk.trans hk10
  replace hO := hO.keep0 hk10
  clear hk10 HQ hM hMA2 HONE
  have hmbN : mb ≤ w10.heap.size := hmb ▸ hk.size
  go_upto_region 14 with (at_builtin; refine wpList_append_by _ rfl _ _ 24 24 rfl mb 5 i z 1 1 Tryd.underlying24 hi hz hsz hby hzc none _ 0 _ rfl (Own.nil _ _) _ rfl bs.length _ ((hO).rb.src Tryd.underlying24) (by unfold maxLen; omega) (by omega) hmbN ?_; intro a7 c7 w7 hO7 hka hba)
  have hB : Own w7 mb a7 c7 bs := Own.of hO7 rfl
  replace hX := hX.keep hka (by simp)
  replace hk := hk.trans hka
  have HAX := Lib.hid (ownsRow_ne hB hX (by decide))
  have HXN := Lib.hid (show w.heap.size ≤ xb by omega)
  clear hO7 hka hba hmbN hO
  as_aux_lemma =>
  -- the turned byte
  obtain ⟨q, hq⟩ : ∃ q : Bool, q = (decide (0 ≤ pl) && decide (pl < (bs.length : Int))) := ⟨_, rfl⟩
  have HQ := Lib.hid hq
  clear hq
  go_cut [59] (fun v wx => v = .bool q ∧ wx = w7)
  case first =>
    by_cases t1 : 0 ≤ pl
    · by_cases t2 : pl < (bs.length : Int)
      · have e1 := Lib.hid (show q = true by rw [HQ.out]; simp [t1, t2])
        go_wp2_with fail
        go_meet
        exact ⟨by rw [e1.out], rfl⟩
      · have e1 := Lib.hid (show q = false by rw [HQ.out]; simp [t2])
        go_wp2_with fail
        go_meet
        exact ⟨by rw [e1.out], rfl⟩
    · have e1 := Lib.hid (show q = false by rw [HQ.out]; simp [t1])
      go_wp2_with fail
      go_meet
      exact ⟨by rw [e1.out], rfl⟩
  case rest =>
  obtain ⟨rfl, rfl⟩ := hcut
  go_upto_if 59 with (fail)
  go_cut [9] (fun v wx => ∃ l1 : List UInt8, v = .slice a7 l1.length c7 ∧ l1.length = bs.length ∧ Own wx mb a7 c7 l1 ∧ Blk wx xb 87 cs2 ∧ Keeps [] w wx)
  case first =>
    cases q with
    | false =>
      go_wp2_with fail
      go_meet
      exact ⟨bs, rfl, rfl, hB, hX, hk⟩
    | true =>
      have hq := HQ.out.symm
      simp only [Bool.and_eq_true, decide_eq_true_eq] at hq
      obtain ⟨p, rfl⟩ := Int.eq_ofNat_of_zero_le hq.1
      have hpl : p < bs.length := by omega
      have n1 : (p : Int) < (bs.length : Int) := by omega
      obtain ⟨gb, go', hg0⟩ := hB.rb.at (by have := hB.rb.cap; omega)
      have hgo : go' = 0 := by
        subst hg0
        rcases hB.2 with ⟨h0, _⟩ | ⟨g', cap, cur, he, _⟩
        · cases h0
        · cases he; rfl
      subst hgo
      subst hg0
      have hcell := World.ownsRow.cellAt hB p (by omega)
      rw [bys_at hpl] at hcell
      have hfrz := World.ownsRow.frozenAt hB p
      have hst := fun u => World.ownsRow.stored hB p u
      have hxb := bs[p].toNat_lt
      have hgl2 := (hB.lt gb (by simp)).2
      have hgN := (hB.lt gb (by simp)).1
      have hgx : xb ≠ gb := fun e => ownsRow_ne hB hX (by decide) gb (by simp) e.symm
      generalize hx0 : bs[p].toNat = x at *
      have y3 : Go.bits .xor .u8 (x : Int) (by' : Int) = ((x ^^^ by' : Nat) : Int) := u8_xor_nat x by' hxb hy
      have hxr : x ^^^ by' < 256 := Nat.xor_lt_two_pow (n := 8) hxb hy
      obtain ⟨X, hXx⟩ : ∃ X : UInt8, X.toNat = x ^^^ by' := ⟨UInt8.ofNat (x ^^^ by'), by rw [UInt8.toNat_ofNat']; exact Nat.mod_eq_of_lt hxr⟩
      have hS := (hst (.int .u8 (X.toNat : Nat))).1
      have hks : Keeps [gb] wc (wc.setCell ⟨gb, p, none⟩ (.int .u8 (X.toNat : Nat))) := (Keeps.refl [gb] wc).set (by simp) _
      rw [hXx] at hS hks
      have hbs : bys (bs.set p X) = (bys bs).set p (.int .u8 ((x ^^^ by' : Nat) : Int)) := by
        rw [← hXx]; unfold bys; rw [List.map_set]
      rw [← hbs] at hS
      have HS := Lib.hid hS
      have HKS := Lib.hid hks
      clear hS hks hbs hxr hXx hx0 hst hq HQ
      go_wp2_with fail
      go_meet
      generalize hw1 : World.setCell wc _ _ = w11
      have hks := HKS.out
      have hS := HS.out
      rw [hw1] at hks hS
      exact ⟨bs.set p X, by rw [List.length_set], by rw [List.length_set], by unfold Own; rw [List.length_set]; exact hS, hX.keep hks (by simpa using hgx), hk.step hks (fun y hy => by simp at hy; subst hy; right; omega)⟩
  case rest =>
  obtain ⟨l1, rfl, hl1, hB1, hX1, hk1⟩ := hcut
  clear hB hX hk HQ
  as_aux_lemma =>
  go_upto_region 16 with (fail)
  obtain ⟨q2, hq⟩ : ∃ q : Bool, q = (decide (0 ≤ cut) && decide (cut < (l1.length : Int))) := ⟨_, rfl⟩
  have HQ := Lib.hid hq
  clear hq
  go_cut [76] (fun v wx => v = .bool q2 ∧ wx = wc)
  case first =>
    by_cases t1 : 0 ≤ cut
    · by_cases t2 : cut < (l1.length : Int)
      · have e1 := Lib.hid (show q2 = true by rw [HQ.out]; simp [t1, t2])
        clear hl1
        go_wp2_with fail
        go_meet
        exact ⟨by rw [e1.out], rfl⟩
      · have e1 := Lib.hid (show q2 = false by rw [HQ.out]; simp [t2])
        clear hl1
        go_wp2_with fail
        go_meet
        exact ⟨by rw [e1.out], rfl⟩
    · have e1 := Lib.hid (show q2 = false by rw [HQ.out]; simp [t1])
      clear hl1
      go_wp2_with fail
      go_meet
      exact ⟨by rw [e1.out], rfl⟩
  case rest =>
  obtain ⟨rfl, hwc⟩ := hcut
  subst hwc
  have HL := Lib.hid hl1
  clear hl1
  go_upto_if 76 with (fail)
  go_cut [9] (fun v wx => ∃ l2 : List UInt8, v = .slice a7 l2.length c7 ∧ l2.length ≤ bs.length ∧ Rb wx a7 c7 l2 ∧ Blk wx xb 87 cs2 ∧ Keeps [] w wx)
  case first =>
    have hcap := hB1.rb.cap
    cases q2 with
    | false =>
      go_wp2_with fail
      go_meet
      exact ⟨l1, rfl, by rw [HL.out]; exact Nat.le_refl _, hB1.rb, hX1, hk1⟩
    | true =>
      have hq := HQ.out.symm
      simp only [Bool.and_eq_true, decide_eq_true_eq] at hq
      obtain ⟨p, rfl⟩ := Int.eq_ofNat_of_zero_le hq.1
      have hpl : p < l1.length := by omega
      have n1 : (p : Int) ≤ (c7 : Int) := by omega
      have hT := rb_take hB1.rb (k := p) (by omega)
      have hTl : (l1.take p).length = p := by rw [List.length_take]; omega
      have HTL := Lib.hid hTl
      clear hq HQ hTl
      go_wp2_with fail
      go_meet
      exact ⟨l1.take p, by rw [HTL.out], by rw [HTL.out, ← HL.out]; omega, hT, hX1, hk1⟩
  case rest =>
  obtain ⟨l2, rfl, hl2, hB2, hX2, hk2⟩ := hcut
  clear hB1 hX1 hk1 HQ HL
  as_aux_lemma =>
  go_wp2_with fail
  refine (msg_any a7 c7 l2 _ hB2 (by omega)).mono ?_
  rintro e w12 ⟨d3, a3, ev3, rfl, hMA3, hfr, hk12, hcase⟩
  have hxl := hX2.lt
  have hX3 := hX2.keep hk12 (by simp)
  have hB3 := hB2.keep0 hk12
  have hk3 := hk2.trans hk12
  have HFR := Lib.hid (fun w'' => hfr xb w'' hxl)
  clear hX2 hB2 hk2 hk12 hfr hMA3
  obtain ⟨cs3, hcs3⟩ : ∃ cs3, cs3 = msgCells d3 a3 := ⟨_, rfl⟩
  have hcsz3 : cs3.size = 23 := by rw [hcs3]; rfl
  have hone3 : cs3.toList.all Value.oneCell' = true := by rw [hcs3]; rfl
  rw [← hcs3]
  have HCS := Lib.hid hcs3
  have HONE := Lib.hid hone3
  clear hcs3 hone3
  go_upto_region 19 with (refine wpList_store_agg rfl rfl 87 _ _ rfl xb 0 ?_ cs3.toList ?_ 87 cs2 hX3 ?_ ?_ ?_ cs3 ?_ ?_; rfl; rfl; (rw [Array.length_toList, hcsz3]; exact Tryd.sizeM); (rw [Array.length_toList, hcsz3]; omega); exact HONE.out; exact store_all cs2 cs3 (by omega); intro w13 hX13 hk13)
  have hMA := HFR.out w13 hk13
  have hB13 : Rb w13 a7 c7 l2 := hB3.keep hk13 (fun ad e hne hm => by
    simp at hm
    subst e
    exact HAX.out ad.block (by simp) hm)
  have hk13' : Keeps [] w w13 := hk3.step hk13 (fun x hx => by simp at hx; have := HXN.out; right; omega)
  clear hB3 hk3 HFR
  as_aux_lemma =>
  rcases hcase with ⟨rfl, hok, hd3⟩ | ⟨hE, -, hd3, ha3⟩
  · have P := putMsg_any d3 a3 w13 hMA (by rw [hd3]; exact msg_nums _)
    unfold MsgOk at hok
    rw [← hd3] at hok
    rw [hok.2.2.1] at P
    simp only [if_true] at P
    rw [hok.2.2.2, ← HCS.out] at P
    clear hok hd3 HONE hX3
    go_wp2_with (refine wpList_load_agg rfl 87 _ rfl xb 0 23 ?_ 87 cs3 _ hX13 Tryd.underlying87 rfl Tryd.sizeM ?_ cs3 ?_ ?_; rfl; omega; exact take23 cs3 hcsz3)
    refine P.mono ?_
    rintro e w14 ⟨bo2, bc2, ev4, rfl, hO4, hE4, hk14⟩
    obtain rfl := hE4.zero.2 rfl
    have B := bytes_any a7 bo2 c7 bc2 l2 l2 w14 (hB13.keep0 hk14) hO4.rb
    rw [beq_self_eq_true] at B
    clear P hE4
    go_wp2_with fail
    refine B.mono ?_
    rintro e w' ⟨rfl, hw⟩
    obtain rfl := hw.symm
    clear hw B
    go_wp2_with fail
    go_ret
    exact ⟨rfl, hk13'.trans hk14⟩
  · subst hd3 ha3
    have hz3 : cs3 = #[.int .i64 0, .int .i64 0, .int .i64 0, .int .u64 0, .int .u64 0, .int .u64 0, .slice none 0 0, .int .u64 0, .int .u64 0, .bool false, .int .i64 0, .slice none 0 0, .bool false, .int .u64 0, .int .u64 0, .string ⟨#[]⟩, .int .u64 0, .int .i64 0, .slice none 0 0, .slice none 0 0, .int .i64 0, .int .u64 0, .int .i64 0] := HCS.out.trans zm_cells
    have hE13 := hE.keepR hX3 (by decide) hk13
    obtain ⟨tt, tv, he⟩ := (ErrP.base hE).bad (by decide)
    subst hz3 he
    clear HCS HONE hE hX3 hMA
    go_wp2_with fail
    refine (class_any _ 20 w13 (hk13'.cellSome HG.out (by simp)) hE13.is).mono ?_
    rintro e w14 ⟨rfl, hk14⟩
    have hX14 := hX13.keep hk14 (by simp)
    have Q := same_any zeroMd zeroMa zeroMa w14 (zero_at _) (zero_at _)
    rw [zm_cells] at Q
    go_wp2_with (first
      | (refine wpList_load_aggG rfl 87 _ rfl xb 0 23 ?_ 87 #[.int .i64 0, .int .i64 0, .int .i64 0, .int .u64 0, .int .u64 0, .int .u64 0, .slice none 0 0, .int .u64 0, .int .u64 0, .bool false, .int .i64 0, .slice none 0 0, .bool false, .int .u64 0, .int .u64 0, .string ⟨#[]⟩, .int .u64 0, .int .i64 0, .slice none 0 0, .slice none 0 0, .int .i64 0, .int .u64 0, .int .i64 0] _ hX14 Tryd.underlying87 rfl Tryd.sizeM ?_ #[.int .i64 0, .int .i64 0, .int .i64 0, .int .u64 0, .int .u64 0, .int .u64 0, .slice none 0 0, .int .u64 0, .int .u64 0, .bool false, .int .i64 0, .slice none 0 0, .bool false, .int .u64 0, .int .u64 0, .string ⟨#[]⟩, .int .u64 0, .int .i64 0, .slice none 0 0, .slice none 0 0, .int .i64 0, .int .u64 0, .int .i64 0] ?_ ?_; rfl; omega; exact take23 #[.int .i64 0, .int .i64 0, .int .i64 0, .int .u64 0, .int .u64 0, .int .u64 0, .slice none 0 0, .int .u64 0, .int .u64 0, .bool false, .int .i64 0, .slice none 0 0, .bool false, .int .u64 0, .int .u64 0, .string ⟨#[]⟩, .int .u64 0, .int .i64 0, .slice none 0 0, .slice none 0 0, .int .i64 0, .int .u64 0, .int .i64 0] hcsz3)
      | (refine wpList_builtG rfl 87 _ rfl [] #[.int .i64 0, .int .i64 0, .int .i64 0, .int .u64 0, .int .u64 0, .int .u64 0, .slice none 0 0, .int .u64 0, .int .u64 0, .bool false, .int .i64 0, .slice none 0 0, .bool false, .int .u64 0, .int .u64 0, .string ⟨#[]⟩, .int .u64 0, .int .i64 0, .slice none 0 0, .slice none 0 0, .int .i64 0, .int .u64 0, .int .i64 0] built_Z rfl ?_))
    refine Q.mono ?_
    rintro e w15 ⟨rfl, hk15⟩
    go_wp2_with fail
    go_ret
    exact ⟨rfl, (hk13'.trans hk14).trans hk15⟩
end Go.Proofs.YtcaahgjepkcenaaDoor
