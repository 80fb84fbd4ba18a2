/- Messages as plain data; may a message be? -/
import Derived.Test.YtllcidpmdmacjaaDoorWma

namespace Go.Proofs.YtllcidpmdmacjaaDoor
open Go.RowKit Go.Lib

/-- a message's data -/
structure Md where
  kind : Int
  src : Int
  dst : Int
  term : Nat
  index : Nat
  lterm : Nat
  es : List Ent
  commit : Nat
  round : Nat
  ok : Bool
  off : Int
  data : List UInt8
  done : Bool
  client : Nat
  seq : Nat
  sql : ByteArray
  rseq : Nat
  rcl : Int
  cols : List ByteArray
  rows : List (List Va)
  count : Int
  rindex : Nat
  hint : Int
/-- where a message's parts lie -/
structure Ma where
  ea : Option Addr
  ec : Nat
  da : Option Addr
  dc : Nat
  ca : Option Addr
  cc : Nat
  ra : Option Addr
  rc : Nat
abbrev msgCells (d : Md) (a : Ma) : Array Value := #[.int .i64 d.kind, .int .i64 d.src, .int .i64 d.dst, .int .u64 (d.term : Nat), .int .u64 (d.index : Nat), .int .u64 (d.lterm : Nat), .slice a.ea d.es.length a.ec, .int .u64 (d.commit : Nat), .int .u64 (d.round : Nat), .bool d.ok, .int .i64 d.off, .slice a.da d.data.length a.dc, .bool d.done, .int .u64 (d.client : Nat), .int .u64 (d.seq : Nat), .string d.sql, .int .u64 (d.rseq : Nat), .int .i64 d.rcl, .slice a.ca d.cols.length a.cc, .slice a.ra d.rows.length a.rc, .int .i64 d.count, .int .u64 (d.rindex : Nat), .int .i64 d.hint]
/-- texts that may be read -/
abbrev Rc (w : World) (ao : Option Addr) (c : Nat) (l : List ByteArray) : Prop := Sl w 1 ao l.length c (l.map fun s => Value.string s)
/-- a message's lists may be read -/
structure MsgAt (w : World) (d : Md) (a : Ma) : Prop where
  es : Re w a.ea a.ec d.es
  data : Rb w a.da a.dc d.data
  cols : Rc w a.ca a.cc d.cols
  rows : ∃ l : List Ro, l.map (·.l) = d.rows ∧ Rr w a.ra a.rc l ∧ ∀ r ∈ l, r.At w
theorem MsgAt.keep {w w' : World} {d : Md} {a : Ma} (h : MsgAt w d a) (hk : Keeps [] w w') : MsgAt w' d a := by
  obtain ⟨h1, h2, h3, l, h4, h5, h6⟩ := h
  exact ⟨h1.keep0 hk, h2.keep0 hk, h3.keep0 hk, l, h4, h5.keep0 hk, fun r hr => (h6 r hr).keep hk⟩
/-- a message's numbers are numbers -/
structure Md.Nums (d : Md) : Prop where
  term : d.term < 18446744073709551616
  index : d.index < 18446744073709551616
  lterm : d.lterm < 18446744073709551616
  commit : d.commit < 18446744073709551616
  round : d.round < 18446744073709551616
  client : d.client < 18446744073709551616
  seq : d.seq < 18446744073709551616
  rseq : d.rseq < 18446744073709551616
  rindex : d.rindex < 18446744073709551616
  es : ∀ x ∈ d.es, x.term < 18446744073709551616 ∧ x.client < 18446744073709551616 ∧ x.seq < 18446744073709551616

/-- may a message's own parts be? -/
def Md.own (d : Md) : Bool := inB d.kind 1 8 && decide (d.es.length ≤ 1000) && decide (d.data.length ≤ 262144) && decide (d.sql.size ≤ 2000) && inB d.src (-1) 1000 && inB d.dst (-1) 1000 && inB d.hint (-1) 1000 && inB d.off 0 262144 && inB d.rcl 0 100 && decide (d.cols.length ≤ 64) && decide (d.rows.length ≤ 20000) && inB d.count 0 262144
def Md.may (d : Md) : Bool := d.own && d.es.all entOk && d.cols.all (fun s => decide (s.size ≤ 2000)) && d.rows.all rowOk

theorem Tryd.sizeM : (Tryd.prog.info? 43).map (·.size) = some 23 := by kernel_rfl
theorem Tryd.sizeAN : (Tryd.prog.info? 39).map (·.size) = some 3 := by kernel_rfl

set_option maxRecDepth 100000 in
set_option maxHeartbeats 4000000 in
theorem wmay_any (d : Md) (a : Ma) (w : World) :
    Calls Tryd.prog 23 #[.agg (msgCells d a)] w fun e w' => e = .returned (.bool d.own) ∧ Keeps [] w w' := by
  generalize ho : d.own = ow
  unfold Md.own at ho
  obtain ⟨kind, src, dst, term, index, lterm, es, commit, round, ok, off, data, done, client, seq, sql, rseq, rcl, cols, rows, count, rindex, hint⟩ := d
  obtain ⟨ea, ec, da, dc, ca, cc, ra, rc⟩ := a
  dsimp only [msgCells] at *
  have HO := Lib.hid ho
  clear ho
  have hM := Blk.fresh w 43 #[.int .i64 kind, .int .i64 src, .int .i64 dst, .int .u64 (term : Nat), .int .u64 (index : Nat), .int .u64 (lterm : Nat), .slice ea es.length ec, .int .u64 (commit : Nat), .int .u64 (round : Nat), .bool ok, .int .i64 off, .slice da data.length dc, .bool done, .int .u64 (client : Nat), .int .u64 (seq : Nat), .string sql, .int .u64 (rseq : Nat), .int .i64 rcl, .slice ca cols.length cc, .slice ra rows.length rc, .int .i64 count, .int .u64 (rindex : Nat), .int .i64 hint]
  have hk := (Keeps.refl [] w).alloc (.cells #[.int .i64 kind, .int .i64 src, .int .i64 dst, .int .u64 (term : Nat), .int .u64 (index : Nat), .int .u64 (lterm : Nat), .slice ea es.length ec, .int .u64 (commit : Nat), .int .u64 (round : Nat), .bool ok, .int .i64 off, .slice da data.length dc, .bool done, .int .u64 (client : Nat), .int .u64 (seq : Nat), .string sql, .int .u64 (rseq : Nat), .int .i64 rcl, .slice ca cols.length cc, .slice ra rows.length rc, .int .i64 count, .int .u64 (rindex : Nat), .int .i64 hint] 43)
  go_enter Tryd.func23, Tryd.ntmps23
  go_upto_region 1 with (fail)
  generalize World.alloc w _ = w1 at *
  generalize w.heap.size = mb at *
  have hcM := hM.cell
  have hlM := hM.lt
  go_upto_region 2 with (refine wpList_load_agg rfl 39 _ rfl mb 18 3 rfl 43 _ _ hM Tryd.underlying39 rfl Tryd.sizeAN (by simp) #[.slice ca cols.length cc, .slice ra rows.length rc, .int .i64 count] rfl ?_)
  have hA := Blk.fresh w1 39 #[.slice ca cols.length cc, .slice ra rows.length rc, .int .i64 count]
  have hM2 := hM.alloc (.cells #[.slice ca cols.length cc, .slice ra rows.length rc, .int .i64 count] 39)
  have hk2 := hk.alloc (.cells #[.slice ca cols.length cc, .slice ra rows.length rc, .int .i64 count] 39)
  clear hM hcM hlM hk
  generalize World.alloc w1 _ = w2 at *
  generalize w1.heap.size = ab at *
  have hcM := hM2.cell
  have hlM := hM2.lt
  have hcA := hA.cell
  have hlA := hA.lt
  go_wp2_with fail
  refine (in_any kind 1 8 w2).mono ?_
  rintro e w' ⟨rfl, hw⟩
  obtain rfl := hw.symm
  clear hw
  generalize inB kind 1 8 = q at *
  cases q with
  | false =>
    have e1 := Lib.hid (show ow = false by rw [← HO.out]; simp)
    clear HO
    go_wp2_with fail
    go_ret
    exact ⟨by rw [e1.out]; rfl, hk2⟩
  | true =>
  by_cases c1 : es.length ≤ 1000
  rotate_left
  · have e1 := Lib.hid (show ow = false by rw [← HO.out]; simp [c1])
    have n1 : ¬ ((es.length : Int) ≤ 1000) := by omega
    clear HO
    go_wp2_with fail
    go_ret
    exact ⟨by rw [e1.out]; rfl, hk2⟩
  have m1 : (es.length : Int) ≤ 1000 := by omega
  by_cases c2 : data.length ≤ 262144
  rotate_left
  · have e1 := Lib.hid (show ow = false by rw [← HO.out]; simp [c2])
    have n1 : ¬ ((data.length : Int) ≤ 262144) := by omega
    clear HO
    go_wp2_with fail
    go_ret
    exact ⟨by rw [e1.out]; rfl, hk2⟩
  have m2 : (data.length : Int) ≤ 262144 := by omega
  by_cases c3 : sql.size ≤ 2000
  rotate_left
  · have e1 := Lib.hid (show ow = false by rw [← HO.out]; simp [c3])
    have n1 : ¬ ((sql.size : Int) ≤ 2000) := by omega
    clear HO
    go_wp2_with fail
    go_ret
    exact ⟨by rw [e1.out]; rfl, hk2⟩
  have m3 : (sql.size : Int) ≤ 2000 := by omega
  go_wp2_with fail
  refine (in_any src (-1) 1000 w2).mono ?_
  rintro e w' ⟨rfl, hw⟩
  obtain rfl := hw.symm
  clear hw
  generalize inB src (-1) 1000 = q at *
  cases q with
  | false =>
    have e1 := Lib.hid (show ow = false by rw [← HO.out]; simp)
    clear HO
    go_wp2_with fail
    go_ret
    exact ⟨by rw [e1.out]; rfl, hk2⟩
  | true =>
  go_wp2_with fail
  refine (in_any dst (-1) 1000 w2).mono ?_
  rintro e w' ⟨rfl, hw⟩
  obtain rfl := hw.symm
  clear hw
  generalize inB dst (-1) 1000 = q at *
  cases q with
  | false =>
    have e1 := Lib.hid (show ow = false by rw [← HO.out]; simp)
    clear HO
    go_wp2_with fail
    go_ret
    exact ⟨by rw [e1.out]; rfl, hk2⟩
  | true =>
  go_wp2_with fail
  refine (in_any hint (-1) 1000 w2).mono ?_
  rintro e w' ⟨rfl, hw⟩
  obtain rfl := hw.symm
  clear hw
  generalize inB hint (-1) 1000 = q at *
  cases q with
  | false =>
    have e1 := Lib.hid (show ow = false by rw [← HO.out]; simp)
    clear HO
    go_wp2_with fail
    go_ret
    exact ⟨by rw [e1.out]; rfl, hk2⟩
  | true =>
  go_wp2_with fail
  refine (in_any off 0 262144 w2).mono ?_
  rintro e w' ⟨rfl, hw⟩
  obtain rfl := hw.symm
  clear hw
  generalize inB off 0 262144 = q at *
  cases q with
  | false =>
    have e1 := Lib.hid (show ow = false by rw [← HO.out]; simp)
    clear HO
    go_wp2_with fail
    go_ret
    exact ⟨by rw [e1.out]; rfl, hk2⟩
  | true =>
  go_wp2_with fail
  refine (in_any rcl 0 100 w2).mono ?_
  rintro e w' ⟨rfl, hw⟩
  obtain rfl := hw.symm
  clear hw
  generalize inB rcl 0 100 = q at *
  cases q with
  | false =>
    have e1 := Lib.hid (show ow = false by rw [← HO.out]; simp)
    clear HO
    go_wp2_with fail
    go_ret
    exact ⟨by rw [e1.out]; rfl, hk2⟩
  | true =>
  by_cases c9 : cols.length ≤ 64
  rotate_left
  · have e1 := Lib.hid (show ow = false by rw [← HO.out]; simp [c9])
    have n1 : ¬ ((cols.length : Int) ≤ 64) := by omega
    clear HO
    go_wp2_with fail
    go_ret
    exact ⟨by rw [e1.out]; rfl, hk2⟩
  have m9 : (cols.length : Int) ≤ 64 := by omega
  by_cases c10 : rows.length ≤ 20000
  rotate_left
  · have e1 := Lib.hid (show ow = false by rw [← HO.out]; simp [c10])
    have n1 : ¬ ((rows.length : Int) ≤ 20000) := by omega
    clear HO
    go_wp2_with fail
    go_ret
    exact ⟨by rw [e1.out]; rfl, hk2⟩
  have m10 : (rows.length : Int) ≤ 20000 := by omega
  go_wp2_with fail
  refine (in_any count 0 262144 w2).mono ?_
  rintro e w' ⟨rfl, hw⟩
  obtain rfl := hw.symm
  clear hw
  generalize inB count 0 262144 = q at *
  go_wp2_with fail
  go_ret
  have e1 : ow = q := by rw [← HO.out]; simp [c1, c2, c3, c9, c10]
  exact ⟨by rw [e1]; rfl, hk2⟩
end Go.Proofs.YtllcidpmdmacjaaDoor
