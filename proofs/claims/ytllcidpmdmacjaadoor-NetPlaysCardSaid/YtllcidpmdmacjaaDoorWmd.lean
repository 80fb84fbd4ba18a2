/- What Msg reads, as a plain function; a message's bytes are read as it. -/
import Derived.Test.YtllcidpmdmacjaaDoorWmc
import Derived.Test.YtllcidpmdmacjaaDoorWm
namespace Go.Proofs.YtllcidpmdmacjaaDoor
open Go.RowKit Go.Lib

def St.many {α : Type} (p : St → α × St) : Nat → St → List α × St
  | 0, s => ([], s)
  | n + 1, s => ((p s).1 :: (St.many p n (p s).2).1, (St.many p n (p s).2).2)
theorem many_succ {α : Type} (p : St → α × St) (n : Nat) (s : St) : St.many p (n + 1) s = ((p s).1 :: (St.many p n (p s).2).1, (St.many p n (p s).2).2) := rfl
theorem many_whole {α β : Type} (p : St → α × St) (f : β → List UInt8) (g : β → α) : ∀ (l : List β), (∀ x ∈ l, Fits p (f x) (g x)) → ∀ rest n, St.many p l.length ⟨(l.map f).flatten ++ rest, n, 0⟩ = (l.map g, ⟨rest, n + (l.map f).flatten.length, 0⟩)
  | [], _, rest, n => by simp [St.many]
  | x :: l, h, rest, n => by
    rw [List.length_cons, many_succ, List.map_cons, List.flatten_cons, List.append_assoc, (h x List.mem_cons_self).whole]
    dsimp only
    rw [many_whole p f g l (fun y hy => h y (List.mem_cons_of_mem x hy))]
    simp [Nat.add_assoc]
theorem many_all {α : Type} {p : St → α × St} {Q : α → Prop} (h : ∀ s, Q (p s).1) : ∀ (n : Nat) (s : St), ∀ x ∈ (St.many p n s).1, Q x
  | 0, _, x, hx => by simp [St.many] at hx
  | n + 1, s, x, hx => by
    rw [many_succ] at hx
    rcases List.mem_cons.1 hx with rfl | hx
    · exact h s
    · exact many_all h n _ x hx

/-- what Msg reads -/
def rdMsg (s0 : St) : Md × St :=
  let k := s0.byte
  let o := k.2.small 1
  let dn := o.2.small 1
  let fr := dn.2.count 1001
  let tt := fr.2.count 1001
  let hi := tt.2.count 1001
  let tm := hi.2.uint
  let ix := tm.2.uint
  let lt := ix.2.uint
  let cm := lt.2.uint
  let rd := cm.2.uint
  let of' := rd.2.count 262144
  let cl := of'.2.uint
  let sq := cl.2.uint
  let sl := sq.2.sql
  let dc := sl.2.count 262144
  let da := dc.2.bytes dc.1
  let ec := da.2.count 1000
  let es := ec.2.many St.entry ec.1
  let rs := es.2.uint
  let rc := rs.2.count 100
  let ri := rc.2.uint
  let ct := ri.2.count 262144
  let cc := ct.2.count 64
  let co := cc.2.many St.sql cc.1
  let rw' := co.2.count 20000
  let ro := rw'.2.many St.row rw'.1
  (⟨k.1, fr.1 - 1, tt.1 - 1, tm.1, ix.1, lt.1, es.1, cm.1, rd.1, o.1 == 1, of'.1, da.1, dn.1 == 1, cl.1, sq.1, ⟨sl.1.toArray⟩, rs.1, rc.1, co.1.map (fun l => ⟨l.toArray⟩), ro.1, ct.1, ri.1, hi.1 - 1⟩, ro.2)

/-- a row's integers are integers -/
def Wf (l : List Va) : Prop := ∀ v ∈ l, (Lit.int .i64 v.int).wf = true

theorem byte_whole (b : UInt8) (rest : List UInt8) (n : Nat) : St.byte ⟨b :: rest, n, 0⟩ = (b.toNat, ⟨rest, n + 1, 0⟩) := by simp [St.byte, St.take]
theorem fl_toNat (q : Bool) : ((fl q).toNat == 1) = q ∧ (fl q).toNat ≤ 1 := by cases q <;> decide

theorem txt_toArray (s : ByteArray) : (⟨s.data.toList.toArray⟩ : ByteArray) = s := by
  cases s
  simp

set_option maxRecDepth 10000 in
theorem msg_put (d : Md) (hm : d.may = true) (hn : d.Nums) (hw : ∀ l ∈ d.rows, Wf l) : ∃ n, rdMsg ⟨putMd d, 0, 0⟩ = (d, ⟨[], n, 0⟩) := by
  unfold Md.may Md.own inB at hm
  simp only [Bool.and_eq_true, decide_eq_true_eq, List.all_eq_true] at hm
  obtain ⟨⟨⟨⟨⟨⟨⟨⟨⟨⟨⟨⟨⟨⟨hk0, b1⟩, b2⟩, b3⟩, b4⟩, b5⟩, b6⟩, b7⟩, b8⟩, b9⟩, b10⟩, b11⟩, he⟩, hc⟩, hr⟩ := hm
  obtain ⟨n1, n2, n3, n4, n5, n6, n7, n8, n9, n10⟩ := hn
  obtain ⟨kind, src, dst, term, index, lterm, es, commit, round, ok, off, data, done, client, seq, sql, rseq, rcl, cols, rows, count, rindex, hint⟩ := d
  dsimp only at *
  have hform : putMd ⟨kind, src, dst, term, index, lterm, es, commit, round, ok, off, data, done, client, seq, sql, rseq, rcl, cols, rows, count, rindex, hint⟩ =
      UInt8.ofNat (kind % 256).toNat :: ([fl ok] ++ ([fl done] ++ (uvarint (src + 1).toNat ++ (uvarint (dst + 1).toNat ++ (uvarint (hint + 1).toNat ++ (uvarint term ++ (uvarint index ++ (uvarint lterm ++ (uvarint commit ++ (uvarint round ++ (uvarint off.toNat ++ (uvarint client ++ (uvarint seq ++ (txt sql ++ (uvarint data.length ++ (data ++ (uvarint es.length ++ ((es.map putE).flatten ++ (uvarint rseq ++ (uvarint rcl.toNat ++ (uvarint rindex ++ (uvarint count.toNat ++ (uvarint cols.length ++ ((cols.map txt).flatten ++ (uvarint rows.length ++ ((rows.map putRow).flatten ++ [])))))))))))))))))))))))))) := by
    simp [putMd, putHd, us, esB, colB, rowB]
  have hC : ∀ (k m : Nat), k ≤ m → m ≤ 262144 → ∀ rest n, St.count ⟨uvarint k ++ rest, n, 0⟩ m = (k, ⟨rest, n + (uvarint k).length, 0⟩) := fun k m h h2 rest n => (count_fits k m h (by omega)).whole rest n
  have hU : ∀ (k : Nat), k < 18446744073709551616 → ∀ rest n, St.uint ⟨uvarint k ++ rest, n, 0⟩ = (k, ⟨rest, n + (uvarint k).length, 0⟩) := fun k h rest n => (uint_fits k h).whole rest n
  have hF : ∀ (q : Bool) rest n, St.small ⟨[fl q] ++ rest, n, 0⟩ 1 = ((fl q).toNat, ⟨rest, n + 1, 0⟩) := fun q rest n => (small_fits (fl q) 1 (fl_toNat q).2).whole rest n
  have hS : ∀ (s : ByteArray), s.size ≤ 2000 → ∀ rest n, St.sql ⟨txt s ++ rest, n, 0⟩ = (s.data.toList, ⟨rest, n + (txt s).length, 0⟩) := fun s h rest n => (sql_fits s h).whole rest n
  have hD : ∀ rest n, St.bytes ⟨data ++ rest, n, 0⟩ data.length = (data, ⟨rest, n + data.length, 0⟩) := fun rest n => (bytes_fits data data.length rfl).whole rest n
  have hE := many_whole St.entry putE (fun e => e) es (fun x hx => entry_fits x (he x hx) (n10 x hx).1 (n10 x hx).2.1 (n10 x hx).2.2)
  have hT := many_whole St.sql txt (fun s => s.data.toList) cols (fun s hs => sql_fits s (hc s hs))
  have hR := many_whole St.row putRow (fun l => l) rows (fun l hl => row_fits l (hr l hl) (hw l hl))
  have hkb : (UInt8.ofNat (kind % 256).toNat).toNat = kind.toNat := by rw [UInt8.toNat_ofNat']; omega
  rw [hform]
  unfold rdMsg
  dsimp only
  simp only [byte_whole, hF]
  simp only [hC (src + 1).toNat 1001 (by omega) (by omega), hC (dst + 1).toNat 1001 (by omega) (by omega), hC (hint + 1).toNat 1001 (by omega) (by omega), hU term n1, hU index n2, hU lterm n3, hU commit n4, hU round n5, hC off.toNat 262144 (by omega) (by omega), hU client n6, hU seq n7, hS sql b3, hC data.length 262144 b2 (by omega), hD, hC es.length 1000 b1 (by omega), hE, hU rseq n8, hC rcl.toNat 100 (by omega) (by omega), hU rindex n9, hC count.toNat 262144 (by omega) (by omega), hC cols.length 64 b9 (by omega), hT, hC rows.length 20000 b10 (by omega), hR]
  rw [hkb, (fl_toNat ok).1, (fl_toNat done).1]
  have e1 : ((kind.toNat : Nat) : Int) = kind := by omega
  have e2 : (((src + 1).toNat : Nat) : Int) - 1 = src := by omega
  have e3 : (((dst + 1).toNat : Nat) : Int) - 1 = dst := by omega
  have e4 : (((hint + 1).toNat : Nat) : Int) - 1 = hint := by omega
  have e5 : ((off.toNat : Nat) : Int) = off := by omega
  have e6 : ((rcl.toNat : Nat) : Int) = rcl := by omega
  have e7 : ((count.toNat : Nat) : Int) = count := by omega
  have e8 : (cols.map fun s => s.data.toList).map (fun l => (⟨l.toArray⟩ : ByteArray)) = cols := by
    rw [List.map_map]
    have : ((fun l => (⟨l.toArray⟩ : ByteArray)) ∘ fun s : ByteArray => s.data.toList) = id := by
      funext s
      exact txt_toArray s
    rw [this, List.map_id]
  rw [e1, e2, e3, e4, e5, e6, e7, e8, txt_toArray, List.map_id', List.map_id']
  exact ⟨_, rfl⟩

theorem count_le (s : St) (m : Nat) : (s.count m).1 ≤ m := by
  unfold St.count
  split
  · exact Nat.zero_le _
  · omega
theorem byte_le (s : St) : s.byte.1 ≤ 255 := by
  unfold St.byte
  split
  · simp
  · rename_i b l hl
    have := b.toNat_lt
    split
    · simp; omega
    · simp
theorem unzig_wf (u : Nat) (h : u < 18446744073709551616) : (Lit.int .i64 (unzig u)).wf = true := by
  have h2 : -9223372036854775808 ≤ unzig u ∧ unzig u ≤ 9223372036854775807 := by
    unfold unzig
    split <;> omega
  show (decide (IntKind.i64.min ≤ unzig u) && decide (unzig u ≤ IntKind.i64.max)) = true
  rw [show IntKind.i64.min = -9223372036854775808 from rfl, show IntKind.i64.max = 9223372036854775807 from rfl]
  simp only [Bool.and_eq_true, decide_eq_true_eq]
  exact h2
theorem small_wf (n : Nat) (h : n ≤ 255) : (Lit.int .i64 (n : Int)).wf = true := by
  show (decide (IntKind.i64.min ≤ (n : Int)) && decide ((n : Int) ≤ IntKind.i64.max)) = true
  rw [show IntKind.i64.min = -9223372036854775808 from rfl, show IntKind.i64.max = 9223372036854775807 from rfl]
  simp only [Bool.and_eq_true, decide_eq_true_eq]
  omega
theorem value_wf (s : St) : (Lit.int .i64 s.value.1.int).wf = true := by
  have h0 : (Lit.int .i64 0).wf = true := by decide
  unfold St.value
  split
  · exact small_wf _ (small_le _ 1).1
  split
  · unfold St.int
    split
    · exact unzig_wf _ (rdU_lt _)
    · exact h0
  split
  · exact h0
  · exact h0
theorem values_wf : ∀ (n : Nat) (s : St), Wf (s.values n).1
  | 0, _, v, hv => by simp [St.values] at hv
  | n + 1, s, v, hv => by
    rcases List.mem_cons.1 (show v ∈ s.value.1 :: (St.values n s.value.2).1 from hv) with rfl | hv
    · exact value_wf s
    · exact values_wf n _ v hv
theorem row_wf (s : St) : Wf s.row.1 := values_wf _ _
theorem entry_lt (s : St) : s.entry.1.term < 18446744073709551616 ∧ s.entry.1.client < 18446744073709551616 ∧ s.entry.1.seq < 18446744073709551616 := by
  have h1 := uint_lt s
  have h2 := uint_lt (s.uint.2.small 1).2
  have h3 := uint_lt (s.uint.2.small 1).2.uint.2
  unfold St.entry
  dsimp only
  split
  · exact ⟨h1, h2, h3⟩
  · exact ⟨h1, by show 0 < _; decide, by show 0 < _; decide⟩
theorem msg_nums (s : St) : (rdMsg s).1.Nums := by
  have h : ∀ (n : Nat) (s : St), ∀ x ∈ (St.many St.entry n s).1, x.term < 18446744073709551616 ∧ x.client < 18446744073709551616 ∧ x.seq < 18446744073709551616 := many_all entry_lt
  have u := uint_lt
  unfold rdMsg
  dsimp only
  constructor
  all_goals dsimp only
  all_goals first | exact u _ | (intro x hx; exact h _ _ x hx)
set_option maxRecDepth 10000 in
theorem msg_wf (s : St) : ∀ l ∈ (rdMsg s).1.rows, Wf l := by
  have h : ∀ (n : Nat) (s : St), ∀ x ∈ (St.many St.row n s).1, Wf x := many_all row_wf
  unfold rdMsg
  dsimp only
  intro l hl
  exact h _ _ l hl
end Go.Proofs.YtllcidpmdmacjaaDoor
