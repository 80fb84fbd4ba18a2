/- PutMsg. -/
import Derived.Test.YtllcidpmdmacjaaDoorWmb
import Derived.Test.YtllcidpmdmacjaaDoorWh
import Derived.Test.YtllcidpmdmacjaaDoorWl
import Derived.Test.YtllcidpmdmacjaaDoorReg2

namespace Go.Proofs.YtllcidpmdmacjaaDoor
open Go.RowKit Go.Lib

/-- a message's error: perhaps placed -/
inductive ErrQ (w : World) (ev : Value) (f : Nat) : Prop
  | base (h : ErrP w ev f) : ErrQ w ev f
  | placed {b : Nat} {i : Int} {ev' : Value} (he : ev = .iface 66 (.pointer (some ⟨b, 0, none⟩))) (hB : Blk w b 72 #[.int .i64 i, ev']) (h : ErrP w ev' f) (h0 : f ≠ 0) : ErrQ w ev f

/-- bytes that are laid out at once -/
theorem own_lit (w : World) (l : List UInt8) (N : Nat) (hN : N ≤ w.heap.size) (hl : l.length ≤ 1000 := by simp) : Own (w.alloc (.cells (bys l).toArray 5)) N (some ⟨w.heap.size, 0, none⟩) l.length l := by
  have := World.ownsRow_lit (base := N) (e := 5) (size := 1) w (bys l).toArray l.length hN (by unfold maxLen; omega) (by simp)
  simpa [Own] using this
def fl (q : Bool) : UInt8 := if q then 1 else 0
theorem flag_fl (q : Bool) (w : World) : Calls Tryd.prog 26 #[.bool q] w fun e w' => e = .returned (.int .u8 ((fl q).toNat : Nat)) ∧ w' = w := by
  cases q with
  | true => exact flag_any true w
  | false => exact flag_any false w
def txt (s : ByteArray) : List UInt8 := uvarint s.size ++ s.data.toList
def esB (l : List Ent) : List UInt8 := (l.map putE).flatten
def colB (l : List ByteArray) : List UInt8 := (l.map txt).flatten
def rowB (l : List (List Va)) : List UInt8 := (l.map putRow).flatten
theorem flat_succ {α : Type} (f : α → List UInt8) {l : List α} {k : Nat} {x : α} (h : l[k]? = some x) : ((l.take (k + 1)).map f).flatten = ((l.take k).map f).flatten ++ f x := by
  obtain ⟨hk, rfl⟩ := List.getElem?_eq_some_iff.1 h
  rw [List.take_succ_eq_append_getElem hk, List.map_append, List.flatten_append]
  simp only [List.map_cons, List.map_nil, List.flatten_cons, List.flatten_nil, List.append_nil]
theorem txt_len (s : ByteArray) (h : s.size ≤ 2000) : (txt s).length ≤ 2010 := by
  have h1 := uvarint_length64 (x := s.size) (by omega)
  have h2 : s.data.toList.length = s.size := size_toList s
  unfold txt
  rw [List.length_append]
  omega
theorem putRow_le (l : List Va) (h : rowOk l = true) (hi : ∀ v ∈ l, (Lit.int .i64 v.int).wf = true) : (putRow l).length ≤ 3300 := by
  unfold rowOk at h
  simp only [Bool.and_eq_true, decide_eq_true_eq, List.all_eq_true] at h
  have := putVs_length h.2 hi
  unfold putRow
  rw [uvarint_small (by omega)]
  simp only [List.length_append, List.length_cons, List.length_nil]
  omega
theorem putE_le (e : Ent) (h : entOk e = true) (h1 : e.term < 18446744073709551616) (h2 : e.client < 18446744073709551616) (h3 : e.seq < 18446744073709551616) : (putE e).length ≤ 3300 := by
  unfold entOk at h
  simp only [Bool.and_eq_true, decide_eq_true_eq] at h
  have l1 := uvarint_length64 h1
  have l2 := uvarint_length64 h2
  have l3 := uvarint_length64 h3
  have l4 := uvarint_length64 (x := e.sql.size) (by omega)
  have l5 : e.sql.data.toList.length = e.sql.size := size_toList e.sql
  unfold putE
  split <;> simp only [List.length_append, List.length_cons, List.length_nil] <;> omega
/-- the bytes of a message's first part -/
def putHd (d : Md) : List UInt8 := [UInt8.ofNat (d.kind % 256).toNat, fl d.ok, fl d.done] ++ us [(d.src + 1).toNat, (d.dst + 1).toNat, (d.hint + 1).toNat, d.term, d.index, d.lterm, d.commit, d.round, d.off.toNat, d.client, d.seq]
/-- a message's bytes -/
def putMd (d : Md) : List UInt8 := putHd d ++ txt d.sql ++ us [d.data.length] ++ d.data ++ us [d.es.length] ++ esB d.es ++ us [d.rseq, d.rcl.toNat, d.rindex, d.count.toNat, d.cols.length] ++ colB d.cols ++ us [d.rows.length] ++ rowB d.rows
theorem rdsM {mb : Nat} {kind src dst : Int} {term index lterm : Nat} {es : List Ent} {commit round : Nat} {ok : Bool} {off : Int} {data : List UInt8} {done : Bool} {client seq : Nat} {sql : ByteArray} {rseq : Nat} {rcl : Int} {cols : List ByteArray} {rows : List (List Va)} {count : Int} {rindex : Nat} {hint : Int} {ea da ca ra : Option Addr} {ec dc cc rc : Nat} {W : World} (hM : Blk W mb 43 #[.int .i64 kind, .int .i64 src, .int .i64 dst, .int .u64 (term : Nat), .int .u64 (index : Nat), .int .u64 (lterm : Nat), .slice ea es.length ec, .int .u64 (commit : Nat), .int .u64 (round : Nat), .bool ok, .int .i64 off, .slice da data.length dc, .bool done, .int .u64 (client : Nat), .int .u64 (seq : Nat), .string sql, .int .u64 (rseq : Nat), .int .i64 rcl, .slice ca cols.length cc, .slice ra rows.length rc, .int .i64 count, .int .u64 (rindex : Nat), .int .i64 hint]) : ∀ p ∈ [((1 : Nat), fun w0 : World => w0.cell? ⟨mb, 0, none⟩ = some (.int .i64 kind)), ((4 : Nat), fun w0 : World => w0.cell? ⟨mb, 9, none⟩ = some (.bool ok)), ((7 : Nat), fun w0 : World => w0.cell? ⟨mb, 12, none⟩ = some (.bool done)), ((11 : Nat), fun w0 : World => w0.cell? ⟨mb, 1, none⟩ = some (.int .i64 src)), ((15 : Nat), fun w0 : World => w0.cell? ⟨mb, 2, none⟩ = some (.int .i64 dst)), ((19 : Nat), fun w0 : World => w0.cell? ⟨mb, 22, none⟩ = some (.int .i64 hint)), ((23 : Nat), fun w0 : World => w0.cell? ⟨mb, 3, none⟩ = some (.int .u64 (term : Nat))), ((25 : Nat), fun w0 : World => w0.cell? ⟨mb, 4, none⟩ = some (.int .u64 (index : Nat))), ((27 : Nat), fun w0 : World => w0.cell? ⟨mb, 5, none⟩ = some (.int .u64 (lterm : Nat))), ((29 : Nat), fun w0 : World => w0.cell? ⟨mb, 7, none⟩ = some (.int .u64 (commit : Nat))), ((31 : Nat), fun w0 : World => w0.cell? ⟨mb, 8, none⟩ = some (.int .u64 (round : Nat))), ((33 : Nat), fun w0 : World => w0.cell? ⟨mb, 10, none⟩ = some (.int .i64 off)), ((36 : Nat), fun w0 : World => w0.cell? ⟨mb, 13, none⟩ = some (.int .u64 (client : Nat))), ((38 : Nat), fun w0 : World => w0.cell? ⟨mb, 14, none⟩ = some (.int .u64 (seq : Nat)))], p.2 W := by
  intro p hp
  simp at hp
  rcases hp with rfl | rfl | rfl | rfl | rfl | rfl | rfl | rfl | rfl | rfl | rfl | rfl | rfl | rfl <;> (simp only []; rw [hM.cell]; rfl)

theorem Rc.at {w : World} {ao : Option Addr} {c : Nat} {l : List ByteArray} (h : Rc w ao c l) {k : Nat} {s : ByteArray} (hv : l[k]? = some s) :
    ∃ bb o, ao = some ⟨bb, o, none⟩ ∧ w.cell? ⟨bb, o + k, none⟩ = some (.string s) := by
  have hkl := (List.getElem?_eq_some_iff.1 hv).1
  obtain ⟨bb, o, rfl⟩ := Sl.at h (by have := h.cap; omega)
  exact ⟨bb, o, rfl, h.cell _ rfl k _ (by rw [List.getElem?_map, hv]; rfl)⟩
theorem rdsD {mb : Nat} {kind src dst : Int} {term index lterm : Nat} {es : List Ent} {commit round : Nat} {ok : Bool} {off : Int} {data : List UInt8} {done : Bool} {client seq : Nat} {sql : ByteArray} {rseq : Nat} {rcl : Int} {cols : List ByteArray} {rows : List (List Va)} {count : Int} {rindex : Nat} {hint : Int} {ea da ca ra : Option Addr} {ec dc cc rc : Nat} {W : World} (hM : Blk W mb 43 #[.int .i64 kind, .int .i64 src, .int .i64 dst, .int .u64 (term : Nat), .int .u64 (index : Nat), .int .u64 (lterm : Nat), .slice ea es.length ec, .int .u64 (commit : Nat), .int .u64 (round : Nat), .bool ok, .int .i64 off, .slice da data.length dc, .bool done, .int .u64 (client : Nat), .int .u64 (seq : Nat), .string sql, .int .u64 (rseq : Nat), .int .i64 rcl, .slice ca cols.length cc, .slice ra rows.length rc, .int .i64 count, .int .u64 (rindex : Nat), .int .i64 hint]) : ∀ p ∈ [((2 : Nat), fun w0 : World => w0.cell? ⟨mb, 11, none⟩ = some (.slice da data.length dc)), ((8 : Nat), fun w0 : World => w0.cell? ⟨mb, 11, none⟩ = some (.slice da data.length dc))], p.2 W := by
  intro p hp
  simp at hp
  rcases hp with rfl | rfl <;> (simp only []; rw [hM.cell]; rfl)

set_option maxRecDepth 100000 in
set_option maxHeartbeats 4000000 in
theorem putMsg_any (d : Md) (a : Ma) (W0 : World) (h : MsgAt W0 d a) (hn : d.Nums) :
    Calls Tryd.prog 15 #[.agg (msgCells d a)] W0 fun e w' => ∃ bo c ev, e = .returned (.tuple #[.slice bo (if d.may then putMd d else []).length c, ev]) ∧ Own w' W0.heap.size bo c (if d.may then putMd d else []) ∧ ErrQ w' ev (if d.may then 0 else 20) ∧ Keeps [] W0 w' := by
  have MY := fun w => wmay_any d a w
  obtain ⟨i, z, hi, hz, hsz, hby, hzc⟩ := infoB
  generalize hres : (if d.may then putMd d else []) = res
  generalize hcls : (if d.may then 0 else 20) = cls
  have hmay : d.may = (d.own && d.es.all entOk && d.cols.all (fun s => decide (s.size ≤ 2000)) && d.rows.all rowOk) := rfl
  have hown : d.own = (inB d.kind 1 8 && decide (d.es.length ≤ 1000) && decide (d.data.length ≤ 262144) && decide (d.sql.size ≤ 2000) && inB d.src (-1) 1000 && inB d.dst (-1) 1000 && inB d.hint (-1) 1000 && inB d.off 0 262144 && inB d.rcl 0 100 && decide (d.cols.length ≤ 64) && decide (d.rows.length ≤ 20000) && inB d.count 0 262144) := rfl
  generalize d.may = dm at *
  obtain ⟨md, hmd⟩ : ∃ md, putMd d = md := ⟨_, rfl⟩
  rw [hmd] at hres
  unfold putMd at hmd
  obtain ⟨hd, hhd⟩ : ∃ hd, putHd d = hd := ⟨_, rfl⟩
  rw [hhd] at hmd
  unfold putHd at hhd
  generalize d.own = ow at *
  obtain ⟨kind, src, dst, term, index, lterm, es, commit, round, ok, off, data, done, client, seq, sql, rseq, rcl, cols, rows, count, rindex, hint⟩ := d
  obtain ⟨ea, ec, da, dc, ca, cc, ra, rc⟩ := a
  dsimp only [msgCells] at *
  have HMY := Lib.hid MY
  have HMAY := Lib.hid hmay
  have HOWN := Lib.hid hown
  have HR := Lib.hid hres
  have HC := Lib.hid hcls
  have HHD := Lib.hid hhd
  have HMD := Lib.hid hmd
  have H := Lib.hid h
  clear MY hmay hown hres hcls hhd hmd h
  have hM := Blk.fresh W0 43 #[.int .i64 kind, .int .i64 src, .int .i64 dst, .int .u64 (term : Nat), .int .u64 (index : Nat), .int .u64 (lterm : Nat), .slice ea es.length ec, .int .u64 (commit : Nat), .int .u64 (round : Nat), .bool ok, .int .i64 off, .slice da data.length dc, .bool done, .int .u64 (client : Nat), .int .u64 (seq : Nat), .string sql, .int .u64 (rseq : Nat), .int .i64 rcl, .slice ca cols.length cc, .slice ra rows.length rc, .int .i64 count, .int .u64 (rindex : Nat), .int .i64 hint]
  have hk := (Keeps.refl [] W0).alloc (.cells #[.int .i64 kind, .int .i64 src, .int .i64 dst, .int .u64 (term : Nat), .int .u64 (index : Nat), .int .u64 (lterm : Nat), .slice ea es.length ec, .int .u64 (commit : Nat), .int .u64 (round : Nat), .bool ok, .int .i64 off, .slice da data.length dc, .bool done, .int .u64 (client : Nat), .int .u64 (seq : Nat), .string sql, .int .u64 (rseq : Nat), .int .i64 rcl, .slice ca cols.length cc, .slice ra rows.length rc, .int .i64 count, .int .u64 (rindex : Nat), .int .i64 hint] 43)
  go_enter Tryd.func15, Tryd.ntmps15
  go_upto_region 1 with (fail)
  generalize World.alloc W0 _ = w1 at *
  generalize hme : W0.heap.size = mb at *
  have hlM := hM.lt
  go_wp2_with (first | (refine wpList_load_agg rfl 43 _ rfl mb 0 23 rfl 43 _ _ hM Tryd.underlying43 rfl Tryd.sizeM (by simp) #[.int .i64 kind, .int .i64 src, .int .i64 dst, .int .u64 (term : Nat), .int .u64 (index : Nat), .int .u64 (lterm : Nat), .slice ea es.length ec, .int .u64 (commit : Nat), .int .u64 (round : Nat), .bool ok, .int .i64 off, .slice da data.length dc, .bool done, .int .u64 (client : Nat), .int .u64 (seq : Nat), .string sql, .int .u64 (rseq : Nat), .int .i64 rcl, .slice ca cols.length cc, .slice ra rows.length rc, .int .i64 count, .int .u64 (rindex : Nat), .int .i64 hint] rfl ?_) | (go_at_call 23; fail))
  refine (HMY.out w1).mono ?_
  rintro e w2 ⟨rfl, hk2⟩
  have hM2 := hM.keep hk2 (by simp)
  have hkm := hk.trans hk2
  clear HMY hM hlM hk hk2
  cases ow with
  | false =>
    have e1 := Lib.hid (show dm = false by rw [HMAY.out]; simp)
    clear HOWN HHD
    go_wp2_with fail
    refine (wform _ w2).mono ?_
    rintro e w3 ⟨g, rfl, hE, hk3⟩
    go_wp2_with fail
    go_ret2
    exact ⟨none, 0, _, by rw [← HR.out, e1.out]; rfl, by rw [← HR.out, e1.out]; exact Own.nil _ _, by rw [← HC.out, e1.out]; exact .base (.base (ErrF.of hE (by simp))), hkm.trans hk3⟩
  | true =>
  have ho := HOWN.out
  simp only [inB, Bool.true_eq, Bool.and_eq_true, decide_eq_true_eq] at ho
  obtain ⟨⟨⟨⟨⟨⟨⟨⟨⟨⟨⟨hk0, b1⟩, b2⟩, b3⟩, b4⟩, b5⟩, b6⟩, b7⟩, b8⟩, b9⟩, b10⟩, b11⟩ := ho
  clear HOWN
  have HN0 := Lib.hid hn
  clear hn
  obtain ⟨n1, hn1⟩ : ∃ n, n = (src + 1).toNat := ⟨_, rfl⟩
  obtain ⟨n2, hn2⟩ : ∃ n, n = (dst + 1).toNat := ⟨_, rfl⟩
  obtain ⟨n3, hn3⟩ : ∃ n, n = (hint + 1).toNat := ⟨_, rfl⟩
  obtain ⟨n4, hn4⟩ : ∃ n, n = off.toNat := ⟨_, rfl⟩
  have q1 : IntKind.i64.wrap (src + 1) = n1 := by rw [IntWalk.i64_in _ (by omega)]; omega
  have q2 : IntKind.i64.wrap (dst + 1) = n2 := by rw [IntWalk.i64_in _ (by omega)]; omega
  have q3 : IntKind.i64.wrap (hint + 1) = n3 := by rw [IntWalk.i64_in _ (by omega)]; omega
  have q4 : IntKind.u64.wrap off = n4 := by rw [IntWalk.u64_in _ (by omega)]; omega
  have q5 : IntKind.u64.wrap (n1 : Int) = n1 := IntWalk.u64_in _ (by omega)
  have q6 : IntKind.u64.wrap (n2 : Int) = n2 := IntWalk.u64_in _ (by omega)
  have q7 : IntKind.u64.wrap (n3 : Int) = n3 := IntWalk.u64_in _ (by omega)
  have q8 := kindByte kind
  have HN := Lib.hid (show ∀ n ∈ [n1, n2, n3, term, index, lterm, commit, round, n4, client, seq], n < 18446744073709551616 by
    have := HN0.out.term; have := HN0.out.index; have := HN0.out.lterm; have := HN0.out.commit; have := HN0.out.round; have := HN0.out.client; have := HN0.out.seq
    dsimp only at *
    intro n hx
    simp only [List.mem_cons, List.not_mem_nil, or_false] at hx
    omega)
  have hh := HHD.out
  rw [← hn1, ← hn2, ← hn3, ← hn4] at hh
  have HF1 := Lib.hid fun w => flag_fl ok w
  have HF2 := Lib.hid fun w => flag_fl done w
  generalize UInt8.ofNat (kind % 256).toNat = kb at *
  generalize fl ok = f1 at *
  generalize fl done = f2 at *
  have HH := Lib.hid hh.symm
  clear HHD hh hn1 hn2 hn3 hn4
  go_upto_region 3 with (fail)
  go_cut [4] (fun v wx => ∃ ao c, v = .slice ao hd.length c ∧ Own wx mb ao c hd ∧ Blk wx mb 43 #[.int .i64 kind, .int .i64 src, .int .i64 dst, .int .u64 (term : Nat), .int .u64 (index : Nat), .int .u64 (lterm : Nat), .slice ea es.length ec, .int .u64 (commit : Nat), .int .u64 (round : Nat), .bool ok, .int .i64 off, .slice da data.length dc, .bool done, .int .u64 (client : Nat), .int .u64 (seq : Nat), .string sql, .int .u64 (rseq : Nat), .int .i64 rcl, .slice ca cols.length cc, .slice ra rows.length rc, .int .i64 count, .int .u64 (rindex : Nat), .int .i64 hint] ∧ Keeps [] W0 wx)
  case first =>
    replace hM2 := hM2.drew
    replace hkm := hkm.drew
    refine startU [((1 : Nat), fun w0 : World => w0.cell? ⟨mb, 0, none⟩ = some (.int .i64 kind)), ((4 : Nat), fun w0 : World => w0.cell? ⟨mb, 9, none⟩ = some (.bool ok)), ((7 : Nat), fun w0 : World => w0.cell? ⟨mb, 12, none⟩ = some (.bool done)), ((11 : Nat), fun w0 : World => w0.cell? ⟨mb, 1, none⟩ = some (.int .i64 src)), ((15 : Nat), fun w0 : World => w0.cell? ⟨mb, 2, none⟩ = some (.int .i64 dst)), ((19 : Nat), fun w0 : World => w0.cell? ⟨mb, 22, none⟩ = some (.int .i64 hint)), ((23 : Nat), fun w0 : World => w0.cell? ⟨mb, 3, none⟩ = some (.int .u64 (term : Nat))), ((25 : Nat), fun w0 : World => w0.cell? ⟨mb, 4, none⟩ = some (.int .u64 (index : Nat))), ((27 : Nat), fun w0 : World => w0.cell? ⟨mb, 5, none⟩ = some (.int .u64 (lterm : Nat))), ((29 : Nat), fun w0 : World => w0.cell? ⟨mb, 7, none⟩ = some (.int .u64 (commit : Nat))), ((31 : Nat), fun w0 : World => w0.cell? ⟨mb, 8, none⟩ = some (.int .u64 (round : Nat))), ((33 : Nat), fun w0 : World => w0.cell? ⟨mb, 10, none⟩ = some (.int .i64 off)), ((36 : Nat), fun w0 : World => w0.cell? ⟨mb, 13, none⟩ = some (.int .u64 (client : Nat))), ((38 : Nat), fun w0 : World => w0.cell? ⟨mb, 14, none⟩ = some (.int .u64 (seq : Nat)))] (by kernel_rfl) ?_
    have hM := hM2
    clear hM2
    generalize World.drew w2 = wA at *
    have hSw := rdsM hM
    refine takeU (i := 0) (v := ?_) rfl (by kernel_rfl) (fun _ _ _ h => h) (Or.inl ⟨by rfl, fun w0 hw0 => ?_⟩) (fun p hp _ => hSw p hp) ?_
    rotate_left
    · clear hw0
      go_simp
      try with_reducible rfl
    try go_simp
    refine takeU (i := 1) (v := ?_) rfl (by kernel_rfl) (fun _ _ _ h => h) (Or.inl ⟨by rfl, fun w0 hw0 => ?_⟩) (fun p hp _ => hSw p hp) ?_
    rotate_left
    · have hc0 := hw0 _ (List.mem_of_getElem? (i := 0) rfl) rfl
      dsimp only at hc0
      clear hw0
      go_simp
      try with_reducible rfl
    try go_simp
    refine takeU (i := 2) (v := ?_) rfl (by kernel_rfl) (fun _ _ _ h => h) (Or.inl ⟨by rfl, fun w0 hw0 => ?_⟩) (fun p hp _ => hSw p hp) ?_
    rotate_left
    · clear hw0
      go_simp
      try with_reducible rfl
    try go_simp
    refine takeU (i := 3) (v := ?_) rfl (by kernel_rfl) (fun _ _ _ h => h) (Or.inl ⟨by rfl, fun w0 hw0 => ?_⟩) (fun p hp _ => hSw p hp) ?_
    rotate_left
    · clear hw0
      go_simp
      try with_reducible rfl
    try go_simp
    refine takeU (i := 4) (v := ?_) rfl (by kernel_rfl) (fun _ _ _ h => h) (Or.inl ⟨by rfl, fun w0 hw0 => ?_⟩) (fun p hp _ => hSw p hp) ?_
    rotate_left
    · have hc0 := hw0 _ (List.mem_of_getElem? (i := 1) rfl) rfl
      dsimp only at hc0
      clear hw0
      go_simp
      try with_reducible rfl
    try go_simp
    refine takeU (i := 6) (v := ?_) rfl (by kernel_rfl) (fun _ _ _ h => h) (Or.inl ⟨by rfl, fun w0 hw0 => ?_⟩) (fun p hp _ => hSw p hp) ?_
    rotate_left
    · clear hw0
      go_simp
      try with_reducible rfl
    try go_simp
    refine takeU (i := 7) (v := ?_) rfl (by kernel_rfl) (fun _ _ _ h => h) (Or.inl ⟨by rfl, fun w0 hw0 => ?_⟩) (fun p hp _ => hSw p hp) ?_
    rotate_left
    · have hc0 := hw0 _ (List.mem_of_getElem? (i := 2) rfl) rfl
      dsimp only at hc0
      clear hw0
      go_simp
      try with_reducible rfl
    try go_simp
    refine takeU (i := 10) (v := ?_) rfl (by kernel_rfl) (fun _ _ _ h => h) (Or.inl ⟨by rfl, fun w0 hw0 => ?_⟩) (fun p hp _ => hSw p hp) ?_
    rotate_left
    · clear hw0
      go_simp
      try with_reducible rfl
    try go_simp
    refine takeU (i := 11) (v := ?_) rfl (by kernel_rfl) (fun _ _ _ h => h) (Or.inl ⟨by rfl, fun w0 hw0 => ?_⟩) (fun p hp _ => hSw p hp) ?_
    rotate_left
    · have hc0 := hw0 _ (List.mem_of_getElem? (i := 3) rfl) rfl
      dsimp only at hc0
      clear hw0
      go_simp
      try with_reducible rfl
    try go_simp
    refine takeU (i := 12) (v := ?_) rfl (by kernel_rfl) (fun _ _ _ h => h) (Or.inl ⟨by rfl, fun w0 hw0 => ?_⟩) (fun p hp _ => hSw p hp) ?_
    rotate_left
    · clear hw0
      go_simp
      try with_reducible rfl
    try go_simp
    refine takeU (i := 13) (v := ?_) rfl (by kernel_rfl) (fun _ _ _ h => h) (Or.inl ⟨by rfl, fun w0 hw0 => ?_⟩) (fun p hp _ => hSw p hp) ?_
    rotate_left
    · clear hw0
      go_simp
      try with_reducible rfl
    try go_simp
    refine takeU (i := 14) (v := ?_) rfl (by kernel_rfl) (fun _ _ _ h => h) (Or.inl ⟨by rfl, fun w0 hw0 => ?_⟩) (fun p hp _ => hSw p hp) ?_
    rotate_left
    · clear hw0
      go_simp
      try with_reducible rfl
    try go_simp
    refine takeU (i := 15) (v := ?_) rfl (by kernel_rfl) (fun _ _ _ h => h) (Or.inl ⟨by rfl, fun w0 hw0 => ?_⟩) (fun p hp _ => hSw p hp) ?_
    rotate_left
    · have hc0 := hw0 _ (List.mem_of_getElem? (i := 4) rfl) rfl
      dsimp only at hc0
      clear hw0
      go_simp
      try with_reducible rfl
    try go_simp
    refine takeU (i := 16) (v := ?_) rfl (by kernel_rfl) (fun _ _ _ h => h) (Or.inl ⟨by rfl, fun w0 hw0 => ?_⟩) (fun p hp _ => hSw p hp) ?_
    rotate_left
    · clear hw0
      go_simp
      try with_reducible rfl
    try go_simp
    refine takeU (i := 17) (v := ?_) rfl (by kernel_rfl) (fun _ _ _ h => h) (Or.inl ⟨by rfl, fun w0 hw0 => ?_⟩) (fun p hp _ => hSw p hp) ?_
    rotate_left
    · clear hw0
      go_simp
      try with_reducible rfl
    try go_simp
    refine takeU (i := 18) (v := ?_) rfl (by kernel_rfl) (fun _ _ _ h => h) (Or.inl ⟨by rfl, fun w0 hw0 => ?_⟩) (fun p hp _ => hSw p hp) ?_
    rotate_left
    · clear hw0
      go_simp
      try with_reducible rfl
    try go_simp
    refine takeU (i := 19) (v := ?_) rfl (by kernel_rfl) (fun _ _ _ h => h) (Or.inl ⟨by rfl, fun w0 hw0 => ?_⟩) (fun p hp _ => hSw p hp) ?_
    rotate_left
    · have hc0 := hw0 _ (List.mem_of_getElem? (i := 5) rfl) rfl
      dsimp only at hc0
      clear hw0
      go_simp
      try with_reducible rfl
    try go_simp
    refine takeU (i := 20) (v := ?_) rfl (by kernel_rfl) (fun _ _ _ h => h) (Or.inl ⟨by rfl, fun w0 hw0 => ?_⟩) (fun p hp _ => hSw p hp) ?_
    rotate_left
    · clear hw0
      go_simp
      try with_reducible rfl
    try go_simp
    refine takeU (i := 21) (v := ?_) rfl (by kernel_rfl) (fun _ _ _ h => h) (Or.inl ⟨by rfl, fun w0 hw0 => ?_⟩) (fun p hp _ => hSw p hp) ?_
    rotate_left
    · clear hw0
      go_simp
      try with_reducible rfl
    try go_simp
    refine takeU (i := 22) (v := ?_) rfl (by kernel_rfl) (fun _ _ _ h => h) (Or.inl ⟨by rfl, fun w0 hw0 => ?_⟩) (fun p hp _ => hSw p hp) ?_
    rotate_left
    · clear hw0
      go_simp
      try with_reducible rfl
    try go_simp
    refine takeU (i := 23) (v := ?_) rfl (by kernel_rfl) (fun _ _ _ h => h) (Or.inl ⟨by rfl, fun w0 hw0 => ?_⟩) (fun p hp _ => hSw p hp) ?_
    rotate_left
    · have hc0 := hw0 _ (List.mem_of_getElem? (i := 6) rfl) rfl
      dsimp only at hc0
      clear hw0
      go_simp
      try with_reducible rfl
    try go_simp
    refine takeU (i := 24) (v := ?_) rfl (by kernel_rfl) (fun _ _ _ h => h) (Or.inl ⟨by rfl, fun w0 hw0 => ?_⟩) (fun p hp _ => hSw p hp) ?_
    rotate_left
    · clear hw0
      go_simp
      try with_reducible rfl
    try go_simp
    refine takeU (i := 25) (v := ?_) rfl (by kernel_rfl) (fun _ _ _ h => h) (Or.inl ⟨by rfl, fun w0 hw0 => ?_⟩) (fun p hp _ => hSw p hp) ?_
    rotate_left
    · have hc0 := hw0 _ (List.mem_of_getElem? (i := 7) rfl) rfl
      dsimp only at hc0
      clear hw0
      go_simp
      try with_reducible rfl
    try go_simp
    refine takeU (i := 26) (v := ?_) rfl (by kernel_rfl) (fun _ _ _ h => h) (Or.inl ⟨by rfl, fun w0 hw0 => ?_⟩) (fun p hp _ => hSw p hp) ?_
    rotate_left
    · clear hw0
      go_simp
      try with_reducible rfl
    try go_simp
    refine takeU (i := 27) (v := ?_) rfl (by kernel_rfl) (fun _ _ _ h => h) (Or.inl ⟨by rfl, fun w0 hw0 => ?_⟩) (fun p hp _ => hSw p hp) ?_
    rotate_left
    · have hc0 := hw0 _ (List.mem_of_getElem? (i := 8) rfl) rfl
      dsimp only at hc0
      clear hw0
      go_simp
      try with_reducible rfl
    try go_simp
    refine takeU (i := 28) (v := ?_) rfl (by kernel_rfl) (fun _ _ _ h => h) (Or.inl ⟨by rfl, fun w0 hw0 => ?_⟩) (fun p hp _ => hSw p hp) ?_
    rotate_left
    · clear hw0
      go_simp
      try with_reducible rfl
    try go_simp
    refine takeU (i := 29) (v := ?_) rfl (by kernel_rfl) (fun _ _ _ h => h) (Or.inl ⟨by rfl, fun w0 hw0 => ?_⟩) (fun p hp _ => hSw p hp) ?_
    rotate_left
    · have hc0 := hw0 _ (List.mem_of_getElem? (i := 9) rfl) rfl
      dsimp only at hc0
      clear hw0
      go_simp
      try with_reducible rfl
    try go_simp
    refine takeU (i := 30) (v := ?_) rfl (by kernel_rfl) (fun _ _ _ h => h) (Or.inl ⟨by rfl, fun w0 hw0 => ?_⟩) (fun p hp _ => hSw p hp) ?_
    rotate_left
    · clear hw0
      go_simp
      try with_reducible rfl
    try go_simp
    refine takeU (i := 31) (v := ?_) rfl (by kernel_rfl) (fun _ _ _ h => h) (Or.inl ⟨by rfl, fun w0 hw0 => ?_⟩) (fun p hp _ => hSw p hp) ?_
    rotate_left
    · have hc0 := hw0 _ (List.mem_of_getElem? (i := 10) rfl) rfl
      dsimp only at hc0
      clear hw0
      go_simp
      try with_reducible rfl
    try go_simp
    refine takeU (i := 32) (v := ?_) rfl (by kernel_rfl) (fun _ _ _ h => h) (Or.inl ⟨by rfl, fun w0 hw0 => ?_⟩) (fun p hp _ => hSw p hp) ?_
    rotate_left
    · clear hw0
      go_simp
      try with_reducible rfl
    try go_simp
    refine takeU (i := 33) (v := ?_) rfl (by kernel_rfl) (fun _ _ _ h => h) (Or.inl ⟨by rfl, fun w0 hw0 => ?_⟩) (fun p hp _ => hSw p hp) ?_
    rotate_left
    · have hc0 := hw0 _ (List.mem_of_getElem? (i := 11) rfl) rfl
      dsimp only at hc0
      clear hw0
      go_simp
      try with_reducible rfl
    try go_simp
    refine takeU (i := 34) (v := ?_) rfl (by kernel_rfl) (fun _ _ _ h => h) (Or.inl ⟨by rfl, fun w0 hw0 => ?_⟩) (fun p hp _ => hSw p hp) ?_
    rotate_left
    · clear hw0
      go_simp
      try with_reducible rfl
    try go_simp
    refine takeU (i := 35) (v := ?_) rfl (by kernel_rfl) (fun _ _ _ h => h) (Or.inl ⟨by rfl, fun w0 hw0 => ?_⟩) (fun p hp _ => hSw p hp) ?_
    rotate_left
    · clear hw0
      go_simp
      try with_reducible rfl
    try go_simp
    refine takeU (i := 36) (v := ?_) rfl (by kernel_rfl) (fun _ _ _ h => h) (Or.inl ⟨by rfl, fun w0 hw0 => ?_⟩) (fun p hp _ => hSw p hp) ?_
    rotate_left
    · have hc0 := hw0 _ (List.mem_of_getElem? (i := 12) rfl) rfl
      dsimp only at hc0
      clear hw0
      go_simp
      try with_reducible rfl
    try go_simp
    refine takeU (i := 37) (v := ?_) rfl (by kernel_rfl) (fun _ _ _ h => h) (Or.inl ⟨by rfl, fun w0 hw0 => ?_⟩) (fun p hp _ => hSw p hp) ?_
    rotate_left
    · clear hw0
      go_simp
      try with_reducible rfl
    try go_simp
    refine takeU (i := 38) (v := ?_) rfl (by kernel_rfl) (fun _ _ _ h => h) (Or.inl ⟨by rfl, fun w0 hw0 => ?_⟩) (fun p hp _ => hSw p hp) ?_
    rotate_left
    · have hc0 := hw0 _ (List.mem_of_getElem? (i := 13) rfl) rfl
      dsimp only at hc0
      clear hw0
      go_simp
      try with_reducible rfl
    try go_simp
    refine twoU (i := 5) (j := 39) rfl rfl (by kernel_rfl) (fun K hK => ?_) (fun K hK => ?_)
    · skip
      go_simp
      go_at_call 26
      refine ((HF1).out wA).mono ?_
      rintro e w' ⟨rfl, hw⟩
      obtain rfl := hw.symm
      clear hw
      refine hK _ _ (fun p hp _ _ => hSw p hp) ?_
      clear hK K
      try go_simp
      refine twoU (i := 8) (j := 39) rfl rfl (by kernel_rfl) (fun K hK => ?_) (fun K hK => ?_)
      · skip
        go_simp
        go_at_call 26
        refine ((HF2).out wA).mono ?_
        rintro e w' ⟨rfl, hw⟩
        obtain rfl := hw.symm
        clear hw
        refine hK _ _ (fun p hp _ _ => hSw p hp) ?_
        clear hK K
        try go_simp
        refine twoU (i := 9) (j := 39) rfl rfl (by kernel_rfl) (fun K hK => ?_) (fun K hK => ?_)
        · skip
          go_simp
          have hOb : Own (wA.alloc (.cells #[.int .u8 (kb.toNat : Nat), .int .u8 (f1.toNat : Nat), .int .u8 (f2.toNat : Nat)] 5)) mb (some ⟨wA.heap.size, 0, none⟩) 3 [kb, f1, f2] := own_lit wA [kb, f1, f2] mb (by have := hkm.size; omega)
          replace hM := hM.alloc (.cells #[.int .u8 (kb.toNat : Nat), .int .u8 (f1.toNat : Nat), .int .u8 (f2.toNat : Nat)] 5)
          replace hkm := hkm.alloc (.cells #[.int .u8 (kb.toNat : Nat), .int .u8 (f1.toNat : Nat), .int .u8 (f2.toNat : Nat)] 5)
          clear hSw
          refine hK _ _ (fun p hp _ _ => rdsM hM p hp) ?_
          clear hK K
          try go_simp
          generalize World.alloc wA _ = v1 at *
          generalize wA.heap.size = bb at *
          have hSw := rdsM hM
          refine oneU (i := 39) rfl (by kernel_rfl) (fun K hK => ?_)
          go_simp
          have hUb : Blk (v1.alloc (.cells #[.int .u64 (n1 : Nat), .int .u64 (n2 : Nat), .int .u64 (n3 : Nat), .int .u64 (term : Nat), .int .u64 (index : Nat), .int .u64 (lterm : Nat), .int .u64 (commit : Nat), .int .u64 (round : Nat), .int .u64 (n4 : Nat), .int .u64 (client : Nat), .int .u64 (seq : Nat)] 27)) v1.heap.size 27 (nums [n1, n2, n3, term, index, lterm, commit, round, n4, client, seq]) := Blk.fresh v1 27 #[.int .u64 (n1 : Nat), .int .u64 (n2 : Nat), .int .u64 (n3 : Nat), .int .u64 (term : Nat), .int .u64 (index : Nat), .int .u64 (lterm : Nat), .int .u64 (commit : Nat), .int .u64 (round : Nat), .int .u64 (n4 : Nat), .int .u64 (client : Nat), .int .u64 (seq : Nat)]
          replace hOb := hOb.keep0 ((Keeps.refl [] v1).alloc (.cells #[.int .u64 (n1 : Nat), .int .u64 (n2 : Nat), .int .u64 (n3 : Nat), .int .u64 (term : Nat), .int .u64 (index : Nat), .int .u64 (lterm : Nat), .int .u64 (commit : Nat), .int .u64 (round : Nat), .int .u64 (n4 : Nat), .int .u64 (client : Nat), .int .u64 (seq : Nat)] 27))
          replace hM := hM.alloc (.cells #[.int .u64 (n1 : Nat), .int .u64 (n2 : Nat), .int .u64 (n3 : Nat), .int .u64 (term : Nat), .int .u64 (index : Nat), .int .u64 (lterm : Nat), .int .u64 (commit : Nat), .int .u64 (round : Nat), .int .u64 (n4 : Nat), .int .u64 (client : Nat), .int .u64 (seq : Nat)] 27)
          replace hkm := hkm.alloc (.cells #[.int .u64 (n1 : Nat), .int .u64 (n2 : Nat), .int .u64 (n3 : Nat), .int .u64 (term : Nat), .int .u64 (index : Nat), .int .u64 (lterm : Nat), .int .u64 (commit : Nat), .int .u64 (round : Nat), .int .u64 (n4 : Nat), .int .u64 (client : Nat), .int .u64 (seq : Nat)] 27)
          clear hSw
          refine hK _ _ (fun p hp _ _ => rdsM hM p hp) ?_
          clear hK K
          try go_simp
          generalize World.alloc v1 _ = v2 at *
          generalize v1.heap.size = ub at *
          have hSw := rdsM hM
          refine oneU (i := 40) rfl (by kernel_rfl) (fun K hK => ?_)
          go_simp
          go_at_call 25
          refine (uints_any _ _ [kb, f1, f2] ub mb [n1, n2, n3, term, index, lterm, commit, round, n4, client, seq] v2 hOb hUb HN.out (by simp) (by simp) (by have := hkm.size; omega)).mono ?_
          rintro e w9 ⟨a9, c9, rfl, hO9, hk9⟩
          have hM9 := hM.keep hk9 (fun hx => ownsRow_ne hOb hM (by decide) mb hx rfl)
          have hk09 := hkm.step hk9 (fun x hx => .inr (by have := (Own.lt hOb x hx).1; omega))
          refine hK _ _ (fun p hp _ _ => rdsM hM9 p hp) ?_
          clear hK K
          try go_simp
          refine oneU (i := 41) rfl (by kernel_rfl) (fun K hK => ?_)
          go_simp
          refine hK _ _ (fun p hp _ _ => rdsM hM9 p hp) ?_
          clear hK K
          refine doneU (by kernel_rfl) ?_
          go_wp2_with fail
          go_meet
          exact ⟨a9, c9, by rw [HH.out]; rfl, by rw [HH.out]; exact hO9, hM9, hk09⟩
        · skip
          go_simp
          have hUb : Blk (wA.alloc (.cells #[.int .u64 (n1 : Nat), .int .u64 (n2 : Nat), .int .u64 (n3 : Nat), .int .u64 (term : Nat), .int .u64 (index : Nat), .int .u64 (lterm : Nat), .int .u64 (commit : Nat), .int .u64 (round : Nat), .int .u64 (n4 : Nat), .int .u64 (client : Nat), .int .u64 (seq : Nat)] 27)) wA.heap.size 27 (nums [n1, n2, n3, term, index, lterm, commit, round, n4, client, seq]) := Blk.fresh wA 27 #[.int .u64 (n1 : Nat), .int .u64 (n2 : Nat), .int .u64 (n3 : Nat), .int .u64 (term : Nat), .int .u64 (index : Nat), .int .u64 (lterm : Nat), .int .u64 (commit : Nat), .int .u64 (round : Nat), .int .u64 (n4 : Nat), .int .u64 (client : Nat), .int .u64 (seq : Nat)]
          replace hM := hM.alloc (.cells #[.int .u64 (n1 : Nat), .int .u64 (n2 : Nat), .int .u64 (n3 : Nat), .int .u64 (term : Nat), .int .u64 (index : Nat), .int .u64 (lterm : Nat), .int .u64 (commit : Nat), .int .u64 (round : Nat), .int .u64 (n4 : Nat), .int .u64 (client : Nat), .int .u64 (seq : Nat)] 27)
          replace hkm := hkm.alloc (.cells #[.int .u64 (n1 : Nat), .int .u64 (n2 : Nat), .int .u64 (n3 : Nat), .int .u64 (term : Nat), .int .u64 (index : Nat), .int .u64 (lterm : Nat), .int .u64 (commit : Nat), .int .u64 (round : Nat), .int .u64 (n4 : Nat), .int .u64 (client : Nat), .int .u64 (seq : Nat)] 27)
          clear hSw
          refine hK _ _ (fun p hp _ _ => rdsM hM p hp) ?_
          clear hK K
          try go_simp
          generalize World.alloc wA _ = v3 at *
          generalize wA.heap.size = ub at *
          have hSw := rdsM hM
          refine oneU (i := 9) rfl (by kernel_rfl) (fun K hK => ?_)
          go_simp
          have hOb : Own (v3.alloc (.cells #[.int .u8 (kb.toNat : Nat), .int .u8 (f1.toNat : Nat), .int .u8 (f2.toNat : Nat)] 5)) mb (some ⟨v3.heap.size, 0, none⟩) 3 [kb, f1, f2] := own_lit v3 [kb, f1, f2] mb (by have := hkm.size; omega)
          replace hUb := hUb.alloc (.cells #[.int .u8 (kb.toNat : Nat), .int .u8 (f1.toNat : Nat), .int .u8 (f2.toNat : Nat)] 5)
          replace hM := hM.alloc (.cells #[.int .u8 (kb.toNat : Nat), .int .u8 (f1.toNat : Nat), .int .u8 (f2.toNat : Nat)] 5)
          replace hkm := hkm.alloc (.cells #[.int .u8 (kb.toNat : Nat), .int .u8 (f1.toNat : Nat), .int .u8 (f2.toNat : Nat)] 5)
          clear hSw
          refine hK _ _ (fun p hp _ _ => rdsM hM p hp) ?_
          clear hK K
          try go_simp
          generalize World.alloc v3 _ = v4 at *
          generalize v3.heap.size = bb at *
          have hSw := rdsM hM
          refine oneU (i := 40) rfl (by kernel_rfl) (fun K hK => ?_)
          go_simp
          go_at_call 25
          refine (uints_any _ _ [kb, f1, f2] ub mb [n1, n2, n3, term, index, lterm, commit, round, n4, client, seq] v4 hOb hUb HN.out (by simp) (by simp) (by have := hkm.size; omega)).mono ?_
          rintro e w9 ⟨a9, c9, rfl, hO9, hk9⟩
          have hM9 := hM.keep hk9 (fun hx => ownsRow_ne hOb hM (by decide) mb hx rfl)
          have hk09 := hkm.step hk9 (fun x hx => .inr (by have := (Own.lt hOb x hx).1; omega))
          refine hK _ _ (fun p hp _ _ => rdsM hM9 p hp) ?_
          clear hK K
          try go_simp
          refine oneU (i := 41) rfl (by kernel_rfl) (fun K hK => ?_)
          go_simp
          refine hK _ _ (fun p hp _ _ => rdsM hM9 p hp) ?_
          clear hK K
          refine doneU (by kernel_rfl) ?_
          go_wp2_with fail
          go_meet
          exact ⟨a9, c9, by rw [HH.out]; rfl, by rw [HH.out]; exact hO9, hM9, hk09⟩
      · skip
        go_simp
        have hUb : Blk (wA.alloc (.cells #[.int .u64 (n1 : Nat), .int .u64 (n2 : Nat), .int .u64 (n3 : Nat), .int .u64 (term : Nat), .int .u64 (index : Nat), .int .u64 (lterm : Nat), .int .u64 (commit : Nat), .int .u64 (round : Nat), .int .u64 (n4 : Nat), .int .u64 (client : Nat), .int .u64 (seq : Nat)] 27)) wA.heap.size 27 (nums [n1, n2, n3, term, index, lterm, commit, round, n4, client, seq]) := Blk.fresh wA 27 #[.int .u64 (n1 : Nat), .int .u64 (n2 : Nat), .int .u64 (n3 : Nat), .int .u64 (term : Nat), .int .u64 (index : Nat), .int .u64 (lterm : Nat), .int .u64 (commit : Nat), .int .u64 (round : Nat), .int .u64 (n4 : Nat), .int .u64 (client : Nat), .int .u64 (seq : Nat)]
        replace hM := hM.alloc (.cells #[.int .u64 (n1 : Nat), .int .u64 (n2 : Nat), .int .u64 (n3 : Nat), .int .u64 (term : Nat), .int .u64 (index : Nat), .int .u64 (lterm : Nat), .int .u64 (commit : Nat), .int .u64 (round : Nat), .int .u64 (n4 : Nat), .int .u64 (client : Nat), .int .u64 (seq : Nat)] 27)
        replace hkm := hkm.alloc (.cells #[.int .u64 (n1 : Nat), .int .u64 (n2 : Nat), .int .u64 (n3 : Nat), .int .u64 (term : Nat), .int .u64 (index : Nat), .int .u64 (lterm : Nat), .int .u64 (commit : Nat), .int .u64 (round : Nat), .int .u64 (n4 : Nat), .int .u64 (client : Nat), .int .u64 (seq : Nat)] 27)
        clear hSw
        refine hK _ _ (fun p hp _ _ => rdsM hM p hp) ?_
        clear hK K
        try go_simp
        generalize World.alloc wA _ = v5 at *
        generalize wA.heap.size = ub at *
        have hSw := rdsM hM
        refine oneU (i := 8) rfl (by kernel_rfl) (fun K hK => ?_)
        go_simp
        go_at_call 26
        refine ((HF2).out v5).mono ?_
        rintro e w' ⟨rfl, hw⟩
        obtain rfl := hw.symm
        clear hw
        refine hK _ _ (fun p hp _ _ => hSw p hp) ?_
        clear hK K
        try go_simp
        refine oneU (i := 9) rfl (by kernel_rfl) (fun K hK => ?_)
        go_simp
        have hOb : Own (v5.alloc (.cells #[.int .u8 (kb.toNat : Nat), .int .u8 (f1.toNat : Nat), .int .u8 (f2.toNat : Nat)] 5)) mb (some ⟨v5.heap.size, 0, none⟩) 3 [kb, f1, f2] := own_lit v5 [kb, f1, f2] mb (by have := hkm.size; omega)
        replace hUb := hUb.alloc (.cells #[.int .u8 (kb.toNat : Nat), .int .u8 (f1.toNat : Nat), .int .u8 (f2.toNat : Nat)] 5)
        replace hM := hM.alloc (.cells #[.int .u8 (kb.toNat : Nat), .int .u8 (f1.toNat : Nat), .int .u8 (f2.toNat : Nat)] 5)
        replace hkm := hkm.alloc (.cells #[.int .u8 (kb.toNat : Nat), .int .u8 (f1.toNat : Nat), .int .u8 (f2.toNat : Nat)] 5)
        clear hSw
        refine hK _ _ (fun p hp _ _ => rdsM hM p hp) ?_
        clear hK K
        try go_simp
        generalize World.alloc v5 _ = v6 at *
        generalize v5.heap.size = bb at *
        have hSw := rdsM hM
        refine oneU (i := 40) rfl (by kernel_rfl) (fun K hK => ?_)
        go_simp
        go_at_call 25
        refine (uints_any _ _ [kb, f1, f2] ub mb [n1, n2, n3, term, index, lterm, commit, round, n4, client, seq] v6 hOb hUb HN.out (by simp) (by simp) (by have := hkm.size; omega)).mono ?_
        rintro e w9 ⟨a9, c9, rfl, hO9, hk9⟩
        have hM9 := hM.keep hk9 (fun hx => ownsRow_ne hOb hM (by decide) mb hx rfl)
        have hk09 := hkm.step hk9 (fun x hx => .inr (by have := (Own.lt hOb x hx).1; omega))
        refine hK _ _ (fun p hp _ _ => rdsM hM9 p hp) ?_
        clear hK K
        try go_simp
        refine oneU (i := 41) rfl (by kernel_rfl) (fun K hK => ?_)
        go_simp
        refine hK _ _ (fun p hp _ _ => rdsM hM9 p hp) ?_
        clear hK K
        refine doneU (by kernel_rfl) ?_
        go_wp2_with fail
        go_meet
        exact ⟨a9, c9, by rw [HH.out]; rfl, by rw [HH.out]; exact hO9, hM9, hk09⟩
    · skip
      go_simp
      have hUb : Blk (wA.alloc (.cells #[.int .u64 (n1 : Nat), .int .u64 (n2 : Nat), .int .u64 (n3 : Nat), .int .u64 (term : Nat), .int .u64 (index : Nat), .int .u64 (lterm : Nat), .int .u64 (commit : Nat), .int .u64 (round : Nat), .int .u64 (n4 : Nat), .int .u64 (client : Nat), .int .u64 (seq : Nat)] 27)) wA.heap.size 27 (nums [n1, n2, n3, term, index, lterm, commit, round, n4, client, seq]) := Blk.fresh wA 27 #[.int .u64 (n1 : Nat), .int .u64 (n2 : Nat), .int .u64 (n3 : Nat), .int .u64 (term : Nat), .int .u64 (index : Nat), .int .u64 (lterm : Nat), .int .u64 (commit : Nat), .int .u64 (round : Nat), .int .u64 (n4 : Nat), .int .u64 (client : Nat), .int .u64 (seq : Nat)]
      replace hM := hM.alloc (.cells #[.int .u64 (n1 : Nat), .int .u64 (n2 : Nat), .int .u64 (n3 : Nat), .int .u64 (term : Nat), .int .u64 (index : Nat), .int .u64 (lterm : Nat), .int .u64 (commit : Nat), .int .u64 (round : Nat), .int .u64 (n4 : Nat), .int .u64 (client : Nat), .int .u64 (seq : Nat)] 27)
      replace hkm := hkm.alloc (.cells #[.int .u64 (n1 : Nat), .int .u64 (n2 : Nat), .int .u64 (n3 : Nat), .int .u64 (term : Nat), .int .u64 (index : Nat), .int .u64 (lterm : Nat), .int .u64 (commit : Nat), .int .u64 (round : Nat), .int .u64 (n4 : Nat), .int .u64 (client : Nat), .int .u64 (seq : Nat)] 27)
      clear hSw
      refine hK _ _ (fun p hp _ _ => rdsM hM p hp) ?_
      clear hK K
      try go_simp
      generalize World.alloc wA _ = v7 at *
      generalize wA.heap.size = ub at *
      have hSw := rdsM hM
      refine oneU (i := 5) rfl (by kernel_rfl) (fun K hK => ?_)
      go_simp
      go_at_call 26
      refine ((HF1).out v7).mono ?_
      rintro e w' ⟨rfl, hw⟩
      obtain rfl := hw.symm
      clear hw
      refine hK _ _ (fun p hp _ _ => hSw p hp) ?_
      clear hK K
      try go_simp
      refine oneU (i := 8) rfl (by kernel_rfl) (fun K hK => ?_)
      go_simp
      go_at_call 26
      refine ((HF2).out v7).mono ?_
      rintro e w' ⟨rfl, hw⟩
      obtain rfl := hw.symm
      clear hw
      refine hK _ _ (fun p hp _ _ => hSw p hp) ?_
      clear hK K
      try go_simp
      refine oneU (i := 9) rfl (by kernel_rfl) (fun K hK => ?_)
      go_simp
      have hOb : Own (v7.alloc (.cells #[.int .u8 (kb.toNat : Nat), .int .u8 (f1.toNat : Nat), .int .u8 (f2.toNat : Nat)] 5)) mb (some ⟨v7.heap.size, 0, none⟩) 3 [kb, f1, f2] := own_lit v7 [kb, f1, f2] mb (by have := hkm.size; omega)
      replace hUb := hUb.alloc (.cells #[.int .u8 (kb.toNat : Nat), .int .u8 (f1.toNat : Nat), .int .u8 (f2.toNat : Nat)] 5)
      replace hM := hM.alloc (.cells #[.int .u8 (kb.toNat : Nat), .int .u8 (f1.toNat : Nat), .int .u8 (f2.toNat : Nat)] 5)
      replace hkm := hkm.alloc (.cells #[.int .u8 (kb.toNat : Nat), .int .u8 (f1.toNat : Nat), .int .u8 (f2.toNat : Nat)] 5)
      clear hSw
      refine hK _ _ (fun p hp _ _ => rdsM hM p hp) ?_
      clear hK K
      try go_simp
      generalize World.alloc v7 _ = v8 at *
      generalize v7.heap.size = bb at *
      have hSw := rdsM hM
      refine oneU (i := 40) rfl (by kernel_rfl) (fun K hK => ?_)
      go_simp
      go_at_call 25
      refine (uints_any _ _ [kb, f1, f2] ub mb [n1, n2, n3, term, index, lterm, commit, round, n4, client, seq] v8 hOb hUb HN.out (by simp) (by simp) (by have := hkm.size; omega)).mono ?_
      rintro e w9 ⟨a9, c9, rfl, hO9, hk9⟩
      have hM9 := hM.keep hk9 (fun hx => ownsRow_ne hOb hM (by decide) mb hx rfl)
      have hk09 := hkm.step hk9 (fun x hx => .inr (by have := (Own.lt hOb x hx).1; omega))
      refine hK _ _ (fun p hp _ _ => rdsM hM9 p hp) ?_
      clear hK K
      try go_simp
      refine oneU (i := 41) rfl (by kernel_rfl) (fun K hK => ?_)
      go_simp
      refine hK _ _ (fun p hp _ _ => rdsM hM9 p hp) ?_
      clear hK K
      refine doneU (by kernel_rfl) ?_
      go_wp2_with fail
      go_meet
      exact ⟨a9, c9, by rw [HH.out]; rfl, by rw [HH.out]; exact hO9, hM9, hk09⟩

  case rest =>
  obtain ⟨a1, c1, rfl, hO, hM, hkm⟩ := hcut
  have hl1 : hd.length ≤ 200 := by
    rw [HH.out, List.length_append]
    have := us_len _ HN.out
    simp only [List.length_cons, List.length_nil] at this ⊢
    omega
  clear HF1 HF2 HN HH hM2 q1 q2 q3 q4 q5 q6 q7 q8
  -- sql
  go_upto_region 4 with (fail)
  have hcM := hM.cell
  have hlM := hM.lt
  go_wp2_with fail
  refine (putText sql wc (by omega)).mono ?_
  rintro e w5 ⟨a2, c2, rfl, hO2, hk5⟩
  have hOx := hO.keep0 hk5
  have hMx := hM.keep hk5 (by simp)
  have hkx := hkm.trans hk5
  have hl2 : (txt sql).length ≤ 2010 := txt_len sql (by omega)
  change Own w5 wc.heap.size a2 c2 (txt sql) at hO2
  rw [show uvarint sql.size ++ sql.data.toList = txt sql from rfl]
  clear hO hM hkm hk5 hcM hlM
  go_upto_region 5 with (at_builtin; refine wpList_append_by _ rfl _ _ 34 34 rfl mb 5 i z 1 1 Tryd.underlying34 hi hz hsz hby hzc a1 _ c1 _ rfl hOx _ rfl (txt sql).length _ (hO2.rb.src Tryd.underlying34) (by unfold maxLen; omega) (by omega) (by have := hkx.size; omega) ?_; intro a3 c3 w6 hO3 hk6 hb6)
  have hO := Own.of hO3 (bys_append hd (txt sql)).symm
  have hM := hMx.keep hk6 (fun hx => ownsRow_ne hOx hMx (by decide) mb hx rfl)
  have hkm := hkx.step hk6 (fun x hx => .inr (by have := (Own.lt hOx x hx).1; omega))
  rw [show hd.length + (txt sql).length = (hd ++ txt sql).length by rw [List.length_append]]
  have hol : (hd ++ txt sql).length ≤ 3000 := by rw [List.length_append]; omega
  clear hOx hMx hkx hO2 hO3 hk6 hb6 hl1 hl2
  generalize hd ++ txt sql = o2 at *
  -- data
  have n20 : data.length < 18446744073709551616 := by omega
  have q9 : IntKind.u64.wrap (data.length : Int) = data.length := IntWalk.u64_in _ (by omega)
  go_cut [4] (fun v wx => ∃ ao c, v = .slice ao (o2 ++ us [data.length] ++ data).length c ∧ Own wx mb ao c (o2 ++ us [data.length] ++ data) ∧ Blk wx mb 43 #[.int .i64 kind, .int .i64 src, .int .i64 dst, .int .u64 (term : Nat), .int .u64 (index : Nat), .int .u64 (lterm : Nat), .slice ea es.length ec, .int .u64 (commit : Nat), .int .u64 (round : Nat), .bool ok, .int .i64 off, .slice da data.length dc, .bool done, .int .u64 (client : Nat), .int .u64 (seq : Nat), .string sql, .int .u64 (rseq : Nat), .int .i64 rcl, .slice ca cols.length cc, .slice ra rows.length rc, .int .i64 count, .int .u64 (rindex : Nat), .int .i64 hint] ∧ Keeps [] W0 wx)
  case first =>
    replace hM := hM.drew
    replace hkm := hkm.drew
    replace hO := hO.keep0 (Keeps.refl [] w6).drew
    have hD := H.out.data.keep0 hkm
    refine startU [((2 : Nat), fun w0 : World => w0.cell? ⟨mb, 11, none⟩ = some (.slice da data.length dc)), ((8 : Nat), fun w0 : World => w0.cell? ⟨mb, 11, none⟩ = some (.slice da data.length dc))] (by kernel_rfl) ?_
    generalize World.drew w6 = wA at *
    have hSw := rdsD hM
    refine takeU (i := 0) (v := ?_) rfl (by kernel_rfl) (fun _ _ _ h => h) (Or.inl ⟨by rfl, fun w0 hw0 => ?_⟩) (fun p hp _ => hSw p hp) ?_
    rotate_left
    · simp [Reads] at hw0
      go_simp
      try with_reducible rfl
    try go_simp
    refine takeU (i := 1) (v := ?_) rfl (by kernel_rfl) (fun _ _ _ h => h) (Or.inl ⟨by rfl, fun w0 hw0 => ?_⟩) (fun p hp _ => hSw p hp) ?_
    rotate_left
    · simp [Reads] at hw0
      go_simp
      try with_reducible rfl
    try go_simp
    refine takeU (i := 2) (v := ?_) rfl (by kernel_rfl) (fun _ _ _ h => h) (Or.inl ⟨by rfl, fun w0 hw0 => ?_⟩) (fun p hp _ => hSw p hp) ?_
    rotate_left
    · simp [Reads] at hw0
      go_simp
      try with_reducible rfl
    try go_simp
    refine takeU (i := 3) (v := ?_) rfl (by kernel_rfl) (fun _ _ _ h => h) (Or.inl ⟨by rfl, fun w0 hw0 => ?_⟩) (fun p hp _ => hSw p hp) ?_
    rotate_left
    · simp [Reads] at hw0
      go_simp
      try with_reducible rfl
    try go_simp
    refine takeU (i := 4) (v := ?_) rfl (by kernel_rfl) (fun _ _ _ h => h) (Or.inl ⟨by rfl, fun w0 hw0 => ?_⟩) (fun p hp _ => hSw p hp) ?_
    rotate_left
    · simp [Reads] at hw0
      go_simp
      try with_reducible rfl
    try go_simp
    refine takeU (i := 7) (v := ?_) rfl (by kernel_rfl) (fun _ _ _ h => h) (Or.inl ⟨by rfl, fun w0 hw0 => ?_⟩) (fun p hp _ => hSw p hp) ?_
    rotate_left
    · simp [Reads] at hw0
      go_simp
      try with_reducible rfl
    try go_simp
    refine takeU (i := 8) (v := ?_) rfl (by kernel_rfl) (fun _ _ _ h => h) (Or.inl ⟨by rfl, fun w0 hw0 => ?_⟩) (fun p hp _ => hSw p hp) ?_
    rotate_left
    · simp [Reads] at hw0
      go_simp
      try with_reducible rfl
    try go_simp
    refine oneU (i := 5) rfl (by kernel_rfl) (fun K hK => ?_)
    go_simp
    have hUb : Blk (wA.alloc (.cells #[.int .u64 (data.length : Nat)] 27)) wA.heap.size 27 (nums [data.length]) := Blk.fresh wA 27 #[.int .u64 (data.length : Nat)]
    have hkB := (Keeps.refl [] wA).alloc (.cells #[.int .u64 (data.length : Nat)] 27)
    replace hO := hO.keep0 hkB
    replace hM := hM.keep hkB (by simp)
    replace hD := hD.keep0 hkB
    replace hkm := hkm.trans hkB
    clear hSw hkB
    refine hK _ _ (fun p hp _ _ => rdsD hM p hp) ?_
    clear hK K
    try go_simp
    generalize World.alloc wA _ = wB at *
    generalize wA.heap.size = ub at *
    refine oneU (i := 6) rfl (by kernel_rfl) (fun K hK => ?_)
    go_simp
    go_at_call 25
    refine (uints_any _ _ o2 ub mb [data.length] wB hO hUb (by simpa using n20) (by simp) (by omega) (by have := hkm.size; omega)).mono ?_
    rintro e w9 ⟨a9, c9, rfl, hO9, hk9⟩
    have hM9 := hM.keep hk9 (fun hx => ownsRow_ne hO hM (by decide) mb hx rfl)
    have hk09 := hkm.step hk9 (fun x hx => .inr (by have := (Own.lt hO x hx).1; omega))
    have hul := us_len [data.length] (by simpa using n20)
    simp only [List.length_cons, List.length_nil] at hul
    have hol9 : (o2 ++ us [data.length]).length ≤ 4000 := by rw [List.length_append]; omega
    have hD9 := H.out.data.keep0 hk09
    dsimp only at hD9
    clear hO hM hkm hk9 hUb hD hul
    generalize o2 ++ us [data.length] = o9 at *
    refine hK _ _ (fun p hp _ _ => rdsD hM9 p hp) ?_
    clear hK K
    try go_simp
    refine oneU (i := 9) rfl (by kernel_rfl) (fun K hK => ?_)
    refine step_append_by rfl _ _ 34 34 rfl mb 5 i z 1 1 Tryd.underlying34 hi hz hsz hby hzc a9 _ c9 _ rfl hO9 _ rfl data.length _ (hD9.src Tryd.underlying34) (by unfold maxLen; omega) (by omega) (by have := hk09.size; omega) ?_
    intro a4 c4 w10 hO10 hk10 hb10
    have hM10 := hM9.keep hk10 (fun hx => ownsRow_ne hO9 hM9 (by decide) mb hx rfl)
    have hk010 := hk09.step hk10 (fun x hx => .inr (by have := (Own.lt hO9 x hx).1; omega))
    refine hK _ _ (fun p hp _ _ => rdsD hM10 p hp) ?_
    clear hK K
    try go_simp
    refine oneU (i := 10) rfl (by kernel_rfl) (fun K hK => ?_)
    go_simp
    refine hK _ _ (fun p hp _ _ => rdsD hM10 p hp) ?_
    clear hK K
    refine doneU (by kernel_rfl) ?_
    have hO11 := Own.of hO10 (bys_append o9 data).symm
    go_wp2_with fail
    go_meet
    exact ⟨a4, c4, by rw [List.length_append], hO11, hM10, hk010⟩
  case rest =>
  obtain ⟨a2, c2, rfl, hO, hM, hkm⟩ := hcut
  have hol3 : (o2 ++ us [data.length] ++ data).length ≤ 270000 := by
    have hul := us_len [data.length] (by simpa using n20)
    simp only [List.length_cons, List.length_nil] at hul
    rw [List.length_append, List.length_append]
    omega
  have hm3 : o2 ++ us [data.length] ++ data ++ us [es.length] ++ esB es ++ us [rseq, rcl.toNat, rindex, count.toNat, cols.length] ++ colB cols ++ us [rows.length] ++ rowB rows = md := HMD.out
  generalize o2 ++ us [data.length] ++ data = o3 at *
  clear HMD hol
  -- the number of entries
  have n21 : es.length < 18446744073709551616 := by omega
  have qe : IntKind.u64.wrap (es.length : Int) = es.length := IntWalk.u64_in _ (by omega)
  have hcM := hM.cell
  have hlM := hM.lt
  have HMD := Lib.hid hm3
  clear hm3 q9
  go_wp2_with fail
  have hkB := (Keeps.refl [] wc).alloc (.cells #[.int .u64 (es.length : Nat)] 27)
  refine (uints_any _ _ o3 _ mb [es.length] _ (hO.keep0 hkB) (Blk.fresh wc 27 #[.int .u64 (es.length : Nat)]) (by simpa using n21) (by simp) (by omega) (by have := hkm.size; simp; omega)).mono ?_
  rintro e w9 ⟨a9, c9, rfl, hO9, hk9⟩
  have hM9 := (hM.keep hkB (by simp)).keep hk9 (fun hx => ownsRow_ne hO hM (by decide) mb hx rfl)
  have hk09 := (hkm.trans hkB).step hk9 (fun x hx => .inr (by have := (Own.lt hO x hx).1; omega))
  have hol4 : (o3 ++ us [es.length]).length ≤ 270010 := by
    have hul := us_len [es.length] (by simpa using n21)
    simp only [List.length_cons, List.length_nil] at hul
    rw [List.length_append]
    omega
  clear hO hM hkm hk9 hkB hcM hlM hol3
  generalize o3 ++ us [es.length] = o4 at *
  have hcM := hM9.cell
  have hlM := hM9.lt
  go_wp2_with fail
  go_loopw [4, 86] (fun v j wr => ∃ (k : Nat) (ao : Option Addr) (c : Nat) (o : List UInt8), v = .slice ao o.length c ∧ j = .int .i64 (k : Int) ∧ k ≤ es.length ∧ o = o4 ++ esB (es.take k) ∧ o.length ≤ 270010 + 3300 * k ∧ (∀ x ∈ es.take k, entOk x = true) ∧ Own wr mb ao c o ∧ Blk wr mb 43 #[.int .i64 kind, .int .i64 src, .int .i64 dst, .int .u64 (term : Nat), .int .u64 (index : Nat), .int .u64 (lterm : Nat), .slice ea es.length ec, .int .u64 (commit : Nat), .int .u64 (round : Nat), .bool ok, .int .i64 off, .slice da data.length dc, .bool done, .int .u64 (client : Nat), .int .u64 (seq : Nat), .string sql, .int .u64 (rseq : Nat), .int .i64 rcl, .slice ca cols.length cc, .slice ra rows.length rc, .int .i64 count, .int .u64 (rindex : Nat), .int .i64 hint] ∧ Keeps [] W0 wr) (fun _ j _ => es.length - (intOf j).toNat)
  case atStart => exact ⟨0, a9, c9, o4, rfl, rfl, by omega, by simp [esB], by omega, by simp, hO9, hM9, hk09⟩
  case round =>
    obtain ⟨k, ao, c, o, rfl, rfl, hk, ho, hol, hok, hO, hM, hkm⟩ := hrel
    clear hO9 hM9 hk09 hcM hlM qe
    by_cases hkl : k < es.length
    · have m1 : (k : Int) < (es.length : Int) := by omega
      have s1 : IntKind.i64.wrap ((k : Int) + 1) = k + 1 := IntWalk.i64_in _ (by omega)
      have hv := List.getElem?_eq_getElem hkl
      have hmem : es[k] ∈ es := List.getElem_mem hkl
      have ho2 : esB (es.take (k + 1)) = esB (es.take k) ++ putE es[k] := flat_succ putE hv
      have hok2 : entOk es[k] = true → ∀ x ∈ es.take (k + 1), entOk x = true := by
        intro h x hx
        rw [List.take_succ_eq_append_getElem hkl, List.mem_append, List.mem_singleton] at hx
        rcases hx with hx | rfl
        · exact hok x hx
        · exact h
      generalize es[k] = x at *
      obtain ⟨t1, t2, t3⟩ := HN0.out.es _ hmem
      have hxl := fun h => putE_le x h t1 t2 t3
      obtain ⟨tm, kd, cl, sq, s⟩ := x
      obtain ⟨bb, oo, rfl, d0, d1, d2, d3, d4⟩ := Re.at (H.out.es.keep0 hkm) hv
      dsimp only at d0 d1 d2 d3 d4 t1 t2 t3
      have HOK := Lib.hid hok
      have HO := Lib.hid ho
      have HO2 := Lib.hid ho2
      have HOK2 := Lib.hid hok2
      have HV := Lib.hid hmem
      clear hok ho ho2 hok2 hmem hv
      go_upto_region 10 with (fail)
      have hX := Blk.fresh wr 80 #[.int .u64 (tm : Nat), .int .i64 kd, .int .u64 (cl : Nat), .int .u64 (sq : Nat), .string s]
      have hkA := (Keeps.refl [] wr).alloc (.cells #[.int .u64 (tm : Nat), .int .i64 kd, .int .u64 (cl : Nat), .int .u64 (sq : Nat), .string s] 80)
      have hO1 := hO.keep0 hkA
      have hM1 := hM.keep hkA (by simp)
      have hk1 := hkm.trans hkA
      clear hO hM hkm hkA d0 d1 d2 d3 d4
      generalize World.alloc wr _ = w1 at *
      generalize wr.heap.size = xb at *
      have hcX := hX.cell
      have hlX := hX.lt
      go_wp2_with fail
      refine (putEntry_any tm kd cl sq s w1 t1 t2 t3).mono ?_
      rintro e w2 ⟨bo, dd, ev, rfl, hO2, hE2, hk2⟩
      have hOx := hO1.keep0 hk2
      have hMx := hM1.keep hk2 (by simp)
      have hkx := hk1.trans hk2
      clear hX hcX hlX hO1 hM1 hk1 hk2
      cases he : entOk ⟨tm, kd, cl, sq, s⟩ with
      | false =>
        rw [he] at hE2
        simp only [Bool.false_eq_true, if_false] at hE2
        have e1 := Lib.hid (show dm = false by
          rw [HMAY.out]
          have : es.all entOk = false := by
            rw [List.all_eq_false]
            exact ⟨_, HV.out, by rw [he]; simp⟩
          rw [this]
          simp)
        rcases hE2 with ⟨_, h0⟩ | ⟨h0, g, p, rfl, hG⟩
        · simp at h0
        have hE2 : ErrF w2 (.iface 57 (.pointer (some ⟨g, 0, none⟩))) 20 := .inr ⟨h0, g, p, rfl, hG⟩
        simp only [Bool.false_eq_true, if_false] at hO2 ⊢
        clear he hO2 hxl
        go_wp2_with fail
        go_ret2
        exact ⟨none, 0, _, by rw [← HR.out, e1.out]; rfl, by rw [← HR.out, e1.out]; exact Own.nil _ _, by rw [← HC.out, e1.out]; exact .placed rfl (Blk.fresh _ _ _) (.base (hE2.keep ((Keeps.refl [] w2).alloc _))) (by decide), hkx.alloc _⟩
      | true =>
        rw [he] at hE2 hO2
        simp only [if_true] at hE2 hO2 ⊢
        obtain rfl := hE2.zero.2 rfl
        have hx2 := hxl he
        clear hE2
        generalize putE ⟨tm, kd, cl, sq, s⟩ = pe at *
        clear hxl
        go_wp2_with (at_builtin; refine wpList_append_by _ rfl _ _ 34 34 rfl mb 5 i z 1 1 Tryd.underlying34 hi hz hsz hby hzc ao _ c _ rfl hOx _ rfl pe.length _ (hO2.rb.src Tryd.underlying34) (by unfold maxLen; omega) (by omega) (by have := hkx.size; omega) ?_; intro a3 c3 w3 hO3 hk3 hb3)
        have hO4 := Own.of hO3 (bys_append o pe).symm
        have hM4 := hMx.keep hk3 (fun hx => ownsRow_ne hOx hMx (by decide) mb hx rfl)
        have hk4 := hkx.step hk3 (fun x hx => .inr (by have := (Own.lt hOx x hx).1; omega))
        clear hOx hMx hkx hO3 hk3 hb3 hO2
        go_roundw
        case rel => exact ⟨k + 1, a3, c3, o ++ pe, by rw [List.length_append], by simp, by omega, by rw [HO.out, HO2.out, List.append_assoc], by rw [List.length_append]; omega, HOK2.out he, hO4, hM4, hk4⟩
        case measure => simp [intOf]; omega
    · have hke : k = es.length := by omega
      have m1 : ¬ ((k : Int) < (es.length : Int)) := by omega
      subst hke
      rw [List.take_length] at ho hok
      have hall : es.all entOk = true := List.all_eq_true.2 hok
      have hm4 := HMD.out
      rw [← ho] at hm4
      have hmay := HMAY.out
      rw [hall] at hmay
      have HMAY2 := Lib.hid hmay
      have HMD2 := Lib.hid hm4
      have hol5 : o.length ≤ 4000000 := by omega
      clear HMAY HMD hm4 hmay hall ho hok hol hol4
      obtain ⟨n5, hn5⟩ : ∃ n, n = rcl.toNat := ⟨_, rfl⟩
      obtain ⟨n6, hn6⟩ : ∃ n, n = count.toNat := ⟨_, rfl⟩
      have q5 : IntKind.u64.wrap rcl = n5 := by rw [IntWalk.u64_in _ (by omega)]; omega
      have q6 : IntKind.u64.wrap count = n6 := by rw [IntWalk.u64_in _ (by omega)]; omega
      have q7 : IntKind.u64.wrap (cols.length : Int) = cols.length := IntWalk.u64_in _ (by omega)
      have HN2 := Lib.hid (show ∀ n ∈ [rseq, n5, rindex, n6, cols.length], n < 18446744073709551616 by
        have := HN0.out.rseq; have := HN0.out.rindex
        dsimp only at *
        intro n hx
        simp only [List.mem_cons, List.not_mem_nil, or_false] at hx
        omega)
      have hm5 := HMD2.out
      rw [← hn5, ← hn6] at hm5
      have HMD3 := Lib.hid hm5
      clear HMD2 hm5 hn5 hn6
      go_upto_region 15 with (fail)
      have hcM := hM.cell
      have hlM := hM.lt
      go_upto_region 16 with (refine wpList_load_agg rfl 39 _ rfl mb 18 3 rfl 43 _ _ hM Tryd.underlying39 rfl Tryd.sizeAN (by simp) #[.slice ca cols.length cc, .slice ra rows.length rc, .int .i64 count] rfl ?_)
      have hA := Blk.fresh wr 39 #[.slice ca cols.length cc, .slice ra rows.length rc, .int .i64 count]
      have hkA := (Keeps.refl [] wr).alloc (.cells #[.slice ca cols.length cc, .slice ra rows.length rc, .int .i64 count] 39)
      have hO1 := hO.keep0 hkA
      have hM1 := hM.keep hkA (by simp)
      have hk1 := hkm.trans hkA
      clear hM hcM hlM hkm hkA hO
      generalize World.alloc wr _ = w1 at *
      generalize wr.heap.size = ab at *
      have hcM := hM1.cell
      have hlM := hM1.lt
      have hcA := hA.cell
      have hlA := hA.lt
      go_wp2_with fail
      have hkB := (Keeps.refl [] w1).alloc (.cells #[.int .u64 (rseq : Nat), .int .u64 (n5 : Nat), .int .u64 (rindex : Nat), .int .u64 (n6 : Nat), .int .u64 (cols.length : Nat)] 27)
      refine (uints_any _ _ o _ mb [rseq, n5, rindex, n6, cols.length] _ (hO1.keep0 hkB) (Blk.fresh w1 27 #[.int .u64 (rseq : Nat), .int .u64 (n5 : Nat), .int .u64 (rindex : Nat), .int .u64 (n6 : Nat), .int .u64 (cols.length : Nat)]) HN2.out (by simp) (by omega) (by have := hk1.size; simp; omega)).mono ?_
      rintro e w9 ⟨a9, c9, rfl, hO9, hk9⟩
      have hM9 := (hM1.keep hkB (by simp)).keep hk9 (fun hx => ownsRow_ne hO1 hM1 (by decide) mb hx rfl)
      have hA9 := (hA.keep hkB (by simp)).keep hk9 (fun hx => ownsRow_ne hO1 hA (by decide) ab hx rfl)
      have hk09 := (hk1.trans hkB).step hk9 (fun x hx => .inr (by have := (Own.lt hO1 x hx).1; omega))
      have hol6 : (o ++ us [rseq, n5, rindex, n6, cols.length]).length ≤ 4000100 := by
        have hul := us_len _ HN2.out
        simp only [List.length_cons, List.length_nil] at hul
        rw [List.length_append]
        omega
      clear hO1 hM1 hA hk1 hk9 hkB hcM hlM hcA hlA hol5 HN2 q5 q6 q7
      generalize o ++ us [rseq, n5, rindex, n6, cols.length] = o6 at *
      have hcA := hA9.cell
      have hlA := hA9.lt
      go_wp2_with fail
      clear m1
      go_loopw [4, 133] (fun v j wr => ∃ (k : Nat) (ao : Option Addr) (c : Nat) (o : List UInt8), v = .slice ao o.length c ∧ j = .int .i64 (k : Int) ∧ k ≤ cols.length ∧ o = o6 ++ colB (cols.take k) ∧ o.length ≤ 4000100 + 2010 * k ∧ (∀ x ∈ cols.take k, x.size ≤ 2000) ∧ Own wr mb ao c o ∧ Blk wr ab 39 #[.slice ca cols.length cc, .slice ra rows.length rc, .int .i64 count] ∧ Keeps [] W0 wr) (fun _ j _ => cols.length - (intOf j).toNat)
      case atStart => exact ⟨0, a9, c9, o6, rfl, rfl, by omega, by simp [colB], by omega, by simp, hO9, hA9, hk09⟩
      case round =>
        obtain ⟨k, ao, c, o, rfl, rfl, hk, ho, hol, hok, hO, hA, hkm⟩ := hrel
        clear hO9 hM9 hA9 hk09 hcA hlA
        by_cases hkl : k < cols.length
        · have m1 : (k : Int) < (cols.length : Int) := by omega
          have s1 : IntKind.i64.wrap ((k : Int) + 1) = k + 1 := IntWalk.i64_in _ (by omega)
          have hv := List.getElem?_eq_getElem hkl
          have hmem : cols[k] ∈ cols := List.getElem_mem hkl
          have ho2 : colB (cols.take (k + 1)) = colB (cols.take k) ++ txt cols[k] := flat_succ txt hv
          have hok2 : cols[k].size ≤ 2000 → ∀ x ∈ cols.take (k + 1), x.size ≤ 2000 := by
            intro h x hx
            rw [List.take_succ_eq_append_getElem hkl, List.mem_append, List.mem_singleton] at hx
            rcases hx with hx | rfl
            · exact hok x hx
            · exact h
          generalize cols[k] = s at *
          obtain ⟨bb, oo, rfl, d0⟩ := Rc.at (H.out.cols.keep0 hkm) hv
          have HO := Lib.hid ho
          have HO2 := Lib.hid ho2
          have HOK2 := Lib.hid hok2
          have HV := Lib.hid hmem
          clear hok ho ho2 hok2 hmem hv
          by_cases hs : 2000 < s.size
          · have m2 : (2000 : Int) < (s.size : Int) := by omega
            have e1 := Lib.hid (show dm = false by
              rw [HMAY2.out]
              have : cols.all (fun s => decide (s.size ≤ 2000)) = false := by
                rw [List.all_eq_false]
                exact ⟨_, HV.out, by simp; omega⟩
              rw [this]
              simp)
            go_wp2_with fail
            refine (wform _ wr).mono ?_
            rintro e w3 ⟨g, rfl, hE, hk3⟩
            go_wp2_with fail
            go_ret2
            exact ⟨none, 0, _, by rw [← HR.out, e1.out]; rfl, by rw [← HR.out, e1.out]; exact Own.nil _ _, by rw [← HC.out, e1.out]; exact .base (.base (ErrF.of hE (by simp))), hkm.trans hk3⟩
          have m2 : ¬ ((2000 : Int) < (s.size : Int)) := by omega
          have hxl := txt_len s (by omega)
          go_wp2_with fail
          refine (putText s wr (by omega)).mono ?_
          rintro e w2 ⟨bo, dd, rfl, hO2, hk2⟩
          change Own w2 wr.heap.size bo dd (txt s) at hO2
          rw [show uvarint s.size ++ s.data.toList = txt s from rfl]
          have hOx := hO.keep0 hk2
          have hAx := hA.keep hk2 (by simp)
          have hkx := hkm.trans hk2
          clear hO hA hkm hk2 d0
          generalize txt s = pe at *
          go_wp2_with (at_builtin; refine wpList_append_by _ rfl _ _ 34 34 rfl mb 5 i z 1 1 Tryd.underlying34 hi hz hsz hby hzc ao _ c _ rfl hOx _ rfl pe.length _ (hO2.rb.src Tryd.underlying34) (by unfold maxLen; omega) (by omega) (by have := hkx.size; omega) ?_; intro a3 c3 w3 hO3 hk3 hb3)
          have hO4 := Own.of hO3 (bys_append o pe).symm
          have hA4 := hAx.keep hk3 (fun hx => ownsRow_ne hOx hAx (by decide) ab hx rfl)
          have hk4 := hkx.step hk3 (fun x hx => .inr (by have := (Own.lt hOx x hx).1; omega))
          clear hOx hAx hkx hO3 hk3 hb3 hO2
          go_roundw
          case rel => exact ⟨k + 1, a3, c3, o ++ pe, by rw [List.length_append], by simp, by omega, by rw [HO.out, HO2.out, List.append_assoc], by rw [List.length_append]; omega, HOK2.out (by omega), hO4, hA4, hk4⟩
          case measure => simp [intOf]; omega
        · have hke : k = cols.length := by omega
          have m1 : ¬ ((k : Int) < (cols.length : Int)) := by omega
          subst hke
          rw [List.take_length] at ho hok
          have hall : cols.all (fun s => decide (s.size ≤ 2000)) = true := List.all_eq_true.2 (fun x hx => by simpa using hok x hx)
          have hm4 := HMD3.out
          rw [← ho] at hm4
          have hmay := HMAY2.out
          rw [hall] at hmay
          have HMAY4 := Lib.hid hmay
          have HMD4 := Lib.hid hm4
          have hol5 : o.length ≤ 5000000 := by omega
          clear HMAY2 HMD3 hm4 hmay hall ho hok hol hol6
          obtain ⟨ros, hros, hRr, hRA⟩ := H.out.rows
          dsimp only at hros hRr
          have HROS := Lib.hid hros
          have HRA := Lib.hid hRA
          have hrl := congrArg List.length hros
          rw [List.length_map] at hrl
          have HRL := Lib.hid hrl
          have HRR := Lib.hid hRr
          clear hros hRA hrl hRr
          have n22 : rows.length < 18446744073709551616 := by omega
          have q7 : IntKind.u64.wrap (rows.length : Int) = rows.length := IntWalk.u64_in _ (by omega)
          go_upto_region 24 with (fail)
          have hcA := hA.cell
          have hlA := hA.lt
          go_wp2_with fail
          have hkB := (Keeps.refl [] wr).alloc (.cells #[.int .u64 (rows.length : Nat)] 27)
          refine (uints_any _ _ o _ mb [rows.length] _ (hO.keep0 hkB) (Blk.fresh wr 27 #[.int .u64 (rows.length : Nat)]) (by simpa using n22) (by simp) (by omega) (by have := hkm.size; simp; omega)).mono ?_
          rintro e w9 ⟨a9, c9, rfl, hO9, hk9⟩
          have hA9 := (hA.keep hkB (by simp)).keep hk9 (fun hx => ownsRow_ne hO hA (by decide) ab hx rfl)
          have hk09 := (hkm.trans hkB).step hk9 (fun x hx => .inr (by have := (Own.lt hO x hx).1; omega))
          have hol6 : (o ++ us [rows.length]).length ≤ 5000100 := by
            have hul := us_len [rows.length] (by simpa using n22)
            simp only [List.length_cons, List.length_nil] at hul
            rw [List.length_append]
            omega
          clear hO hA hkm hk9 hkB hcA hlA hol5 q7
          generalize o ++ us [rows.length] = o8 at *
          have hcA := hA9.cell
          have hlA := hA9.lt
          go_wp2_with fail
          clear m1
          go_loopw [4, 156] (fun v j wr => ∃ (k : Nat) (ao : Option Addr) (c : Nat) (o : List UInt8), v = .slice ao o.length c ∧ j = .int .i64 (k : Int) ∧ k ≤ rows.length ∧ o = o8 ++ rowB (rows.take k) ∧ o.length ≤ 5000100 + 3300 * k ∧ (∀ x ∈ rows.take k, rowOk x = true) ∧ Own wr mb ao c o ∧ Keeps [] W0 wr) (fun _ j _ => rows.length - (intOf j).toNat)
          case atStart => exact ⟨0, a9, c9, o8, rfl, rfl, by omega, by simp [rowB], by omega, by simp, hO9, hk09⟩
          case round =>
            obtain ⟨k, ao, c, o, rfl, rfl, hk, ho, hol, hok, hO, hkm⟩ := hrel
            clear hO9 hA9 hk09 hcA hlA
            by_cases hkl : k < rows.length
            · have m1 : (k : Int) < (rows.length : Int) := by omega
              have s1 : IntKind.i64.wrap ((k : Int) + 1) = k + 1 := IntWalk.i64_in _ (by omega)
              have hkr : k < ros.length := by have := HRL.out; omega
              have hvr := List.getElem?_eq_getElem hkr
              have hv : rows[k]? = some (ros[k]).l := by rw [← HROS.out, List.getElem?_map, hvr]; rfl
              have hv2 : rows[k] = (ros[k]).l := by
                have := List.getElem?_eq_getElem hkl
                rw [hv] at this
                exact (Option.some.inj this).symm
              have hmem : (ros[k]).l ∈ rows := hv2 ▸ List.getElem_mem hkl
              have hAt := HRA.out _ (List.getElem_mem hkr)
              have ho2 : rowB (rows.take (k + 1)) = rowB (rows.take k) ++ putRow (ros[k]).l := flat_succ putRow hv
              have hok2 : rowOk (ros[k]).l = true → ∀ x ∈ rows.take (k + 1), rowOk x = true := by
                intro h x hx
                rw [List.take_succ_eq_append_getElem hkl, List.mem_append, List.mem_singleton] at hx
                rcases hx with hx | rfl
                · exact hok x hx
                · rw [hv2]; exact h
              clear hv hv2
              generalize ros[k] = r at *
              have hAt2 := hAt.keep hkm
              obtain ⟨bb, oo, rfl, d0⟩ := Rr.at (HRR.out.keep0 hkm) hvr
              obtain ⟨ra1, rc1, rl⟩ := r
              dsimp only [Ro.cell] at d0
              dsimp only at ho2 hok2 hmem
              have hxl := fun h => putRow_le rl h hAt2.2
              have HO := Lib.hid ho
              have HO2 := Lib.hid ho2
              have HOK2 := Lib.hid hok2
              have HV := Lib.hid hmem
              clear hok ho ho2 hok2 hmem hvr hkr hAt
              go_wp2_with fail
              refine (putRow_any ra1 rc1 rl wr hAt2.1 hAt2.2).mono ?_
              rintro e w2 ⟨bo, dd, ev, rfl, hO2, hE2, hk2⟩
              have hOx := hO.keep0 hk2
              have hkx := hkm.trans hk2
              clear hO hkm hk2 d0 hAt2
              cases he : rowOk rl with
              | false =>
                rw [he] at hE2
                simp only [Bool.false_eq_true, if_false] at hE2
                have e1 := Lib.hid (show dm = false by
                  rw [HMAY4.out]
                  have : rows.all rowOk = false := by
                    rw [List.all_eq_false]
                    exact ⟨_, HV.out, by rw [he]; simp⟩
                  rw [this]
                  simp)
                obtain ⟨tt, tv, rfl⟩ := hE2.bad (by decide)
                simp only [Bool.false_eq_true, if_false] at hO2 ⊢
                clear he hO2 hxl
                go_wp2_with fail
                go_ret2
                exact ⟨none, 0, _, by rw [← HR.out, e1.out]; rfl, by rw [← HR.out, e1.out]; exact Own.nil _ _, by rw [← HC.out, e1.out]; exact .placed rfl (Blk.fresh _ _ _) (hE2.keep ((Keeps.refl [] w2).alloc _)) (by decide), hkx.alloc _⟩
              | true =>
                rw [he] at hE2 hO2
                simp only [if_true] at hE2 hO2 ⊢
                obtain rfl := hE2.zero.2 rfl
                have hx2 := hxl he
                clear hE2
                generalize putRow rl = pe at *
                clear hxl
                go_wp2_with (at_builtin; refine wpList_append_by _ rfl _ _ 34 34 rfl mb 5 i z 1 1 Tryd.underlying34 hi hz hsz hby hzc ao _ c _ rfl hOx _ rfl pe.length _ (hO2.rb.src Tryd.underlying34) (by unfold maxLen; omega) (by omega) (by have := hkx.size; omega) ?_; intro a3 c3 w3 hO3 hk3 hb3)
                have hO4 := Own.of hO3 (bys_append o pe).symm
                have hk4 := hkx.step hk3 (fun x hx => .inr (by have := (Own.lt hOx x hx).1; omega))
                clear hOx hkx hO3 hk3 hb3 hO2
                go_roundw
                case rel => exact ⟨k + 1, a3, c3, o ++ pe, by rw [List.length_append], by simp, by omega, by rw [HO.out, HO2.out, List.append_assoc], by rw [List.length_append]; omega, HOK2.out he, hO4, hk4⟩
                case measure => simp [intOf]; omega
            · have hke : k = rows.length := by omega
              have m1 : ¬ ((k : Int) < (rows.length : Int)) := by omega
              subst hke
              rw [List.take_length] at ho hok
              have hall : rows.all rowOk = true := List.all_eq_true.2 hok
              have hm4 := HMD4.out
              rw [← ho] at hm4
              have hmay := HMAY4.out
              rw [hall] at hmay
              have e1 := Lib.hid (show dm = true from hmay)
              subst hm4
              clear HMD4 HMAY4 hmay hall ho hok hol hol6
              go_wp2_with fail
              go_ret2
              exact ⟨ao, c, .nilIface, by rw [← HR.out, e1.out]; rfl, by rw [← HR.out, e1.out]; exact hO, by rw [← HC.out, e1.out]; exact .base (.base (.inl ⟨rfl, rfl⟩)), hkm⟩
end Go.Proofs.YtllcidpmdmacjaaDoor
