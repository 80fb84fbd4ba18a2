/- Runs of entries, texts, rows that a function owns; bytes cloned; cells of a message. -/
import Derived.Test.YtllcidpmdmacjaaDoorWmb
import Derived.Test.YtllcidpmdmacjaaDoorWn

namespace Go.Proofs.YtllcidpmdmacjaaDoor
open Go.RowKit Go.Lib

abbrev OwnE (w : World) (N : Nat) (ao : Option Addr) (c : Nat) (l : List Ent) : Prop := w.ownsRow N 80 5 (.slice ao l.length c) l.length (ents l)
abbrev OwnS (w : World) (N : Nat) (ao : Option Addr) (c : Nat) (l : List ByteArray) : Prop := w.ownsRow N 9 1 (.slice ao l.length c) l.length (l.map fun s => Value.string s)
abbrev OwnR (w : World) (N : Nat) (ao : Option Addr) (c : Nat) (l : List Ro) : Prop := w.ownsRow N 82 1 (.slice ao l.length c) l.length (l.map Ro.cell)
theorem sl_of_own {w : World} {base sz n c : Nat} {e : TypeId} {ao : Option Addr} {xs : List Value} (h : w.ownsRow base e sz (.slice ao n c) n xs) (h1 : ∀ u ∈ xs, u.oneCell' = true) : Sl w sz ao n c xs := by
  obtain ⟨ao', c', he, hS, _⟩ := own_sl h h1
  simp only [Value.slice.injEq, true_and] at he
  obtain ⟨rfl, rfl⟩ := he
  exact hS
theorem OwnE.re {w : World} {N : Nat} {ao : Option Addr} {c : Nat} {l : List Ent} (h : OwnE w N ao c l) : Re w ao c l := sl_of_own h (ents_one l)
theorem OwnS.rc {w : World} {N : Nat} {ao : Option Addr} {c : Nat} {l : List ByteArray} (h : OwnS w N ao c l) : Rc w ao c l := sl_of_own h (by intro u hu; obtain ⟨s, _, rfl⟩ := List.mem_map.1 hu; rfl)
theorem OwnR.rr {w : World} {N : Nat} {ao : Option Addr} {c : Nat} {l : List Ro} (h : OwnR w N ao c l) : Rr w ao c l := sl_of_own h (ros_one l)
theorem re1 {w : World} {b : Nat} {x : Ent} (h : Blk w b 80 x.cells) : Re w (some ⟨b, 0, none⟩) 1 [x] := by
  have := Sl.of_blk (n := 1) (sz := 5) h rfl (by decide) (by intro u hu; simp at hu; rcases hu with rfl | rfl | rfl | rfl | rfl <;> rfl)
  have e : ents [x] = x.cells.toList := by simp [ents]
  show Sl w 5 _ 1 1 (ents [x])
  rw [e]
  exact this
theorem rc1 {w : World} {b : Nat} {s : ByteArray} (h : Blk w b 9 #[.string s]) : Rc w (some ⟨b, 0, none⟩) 1 [s] :=
  Sl.of_blk (n := 1) (sz := 1) h rfl (by decide) (by intro u hu; simp at hu; subst hu; rfl)
theorem rr1 {w : World} {b : Nat} {r : Ro} (h : Blk w b 82 #[r.cell]) : Rr w (some ⟨b, 0, none⟩) 1 [r] :=
  Sl.of_blk (n := 1) (sz := 1) h rfl (by decide) (by intro u hu; simp at hu; subst hu; rfl)
theorem infoSt : ∃ i z, Tryd.prog.info? 9 = some i ∧ i.zero = some z ∧ i.size = 1 ∧ i.bytes = 16 ∧ z.cells.size = 1 := by
  have h : (Tryd.prog.info? 9).map (fun i => (i.size, i.bytes, (i.zero.map fun z => z.cells.size))) = some (1, 16, some 1) := by kernel_rfl
  obtain ⟨i, hi, hx⟩ := Option.map_eq_some_iff.1 h
  simp only [Prod.mk.injEq] at hx
  obtain ⟨z, hz, hc⟩ := Option.map_eq_some_iff.1 hx.2.2
  exact ⟨i, z, hi, hz, hx.1, hx.2.1, hc⟩

theorem set_data (d : Md) (a : Ma) (bo : Option Addr) (c : Nat) (l : List UInt8) : (msgCells d a).setIfInBounds 11 (.slice bo l.length c) = msgCells { d with data := l } { a with da := bo, dc := c } := rfl
theorem set_es (d : Md) (a : Ma) (bo : Option Addr) (c : Nat) (l : List Ent) : (msgCells d a).setIfInBounds 6 (.slice bo l.length c) = msgCells { d with es := l } { a with ea := bo, ec := c } := rfl
theorem set_cols (d : Md) (a : Ma) (bo : Option Addr) (c : Nat) (l : List ByteArray) : (msgCells d a).setIfInBounds 18 (.slice bo l.length c) = msgCells { d with cols := l } { a with ca := bo, cc := c } := rfl
theorem set_rows (d : Md) (a : Ma) (bo : Option Addr) (c : Nat) (l : List (List Va)) : (msgCells d a).setIfInBounds 19 (.slice bo l.length c) = msgCells { d with rows := l } { a with ra := bo, rc := c } := rfl
theorem set_count (d : Md) (a : Ma) (n : Int) : (msgCells d a).setIfInBounds 20 (.int .i64 n) = msgCells { d with count := n } a := rfl

set_option maxRecDepth 100000 in
theorem clone_own (ao : Option Addr) (c : Nat) (l : List UInt8) (w : World) (h : Rb w ao c l) (hl : l.length ≤ 1000000000) :
    Calls Tryd.prog 41 #[.slice ao l.length c] w fun e w' => ∃ bo d, e = .returned (.slice bo l.length d) ∧ Own w' w.heap.size bo d l ∧ Keeps [] w w' := by
  obtain ⟨i, z, hi, hz, hsz, hby, hzc⟩ := infoB
  have q := fun (W : World) (a : Option Addr) (n c n' c' : Nat) => Lib.run_eql_slice_nil (P := Tryd.prog) W 34 _ a n c n' c' Tryd.underlying34
  cases ao with
  | none =>
    obtain rfl := h.nil rfl
    have hl0 : l = [] := List.eq_nil_of_length_eq_zero (by have := h.cap; omega)
    subst hl0
    go_enter Tryd.func41, Tryd.ntmps41
    go_wp2_with fail
    go_ret
    exact ⟨none, 0, rfl, Own.nil _ _, Keeps.refl _ _⟩
  | some ad =>
    have hk0 := (Keeps.refl [] w).alloc (.cells #[] 5)
    have hO0 : Own (w.alloc (.cells #[] 5)) w.heap.size (some ⟨w.heap.size, 0, none⟩) 0 [] := World.ownsRow_lit (base := w.heap.size) (e := 5) (size := 1) w #[] 0 (Nat.le_refl _) (by decide) rfl
    have h0 := h.keep0 hk0
    go_enter Tryd.func41, Tryd.ntmps41
    go_wp2_with (at_builtin; refine wpList_append_by _ rfl _ _ 34 34 rfl w.heap.size 5 i z 1 1 Tryd.underlying34 hi hz hsz hby hzc (some ⟨w.heap.size, 0, none⟩) _ 0 _ rfl hO0 _ rfl l.length _ (h0.src Tryd.underlying34) (by unfold maxLen; omega) (by omega) (by simp) ?_; intro a1 c1 w1 hO1 hk1 hb1)
    have hO2 : Own w1 w.heap.size a1 c1 l := Own.of hO1 rfl
    go_ret
    exact ⟨a1, c1, rfl, hO2, hk0.own hk1 hO0⟩

def ZM : Array Value := #[.int .i64 0, .int .i64 0, .int .i64 0, .int .u64 0, .int .u64 0, .int .u64 0, .slice none 0 0, .int .u64 0, .int .u64 0, .bool false, .int .i64 0, .slice none 0 0, .bool false, .int .u64 0, .int .u64 0, .string ⟨#[]⟩, .int .u64 0, .int .i64 0, .slice none 0 0, .slice none 0 0, .int .i64 0, .int .u64 0, .int .i64 0]
/-- Msg under way: the reader (r), the result (xb), the message (mb), what its lists own -/
structure MSt (w0 w : World) (xb r mb : Nat) (s : St) (d : Md) (a : Ma) : Prop where
  rd : RdAt xb w r s
  bx : Blk w xb 43 ZM
  bm : Blk w mb 43 (msgCells d a)
  od : Own w xb a.da a.dc d.data
  oe : OwnE w xb a.ea a.ec d.es
  oc : OwnS w xb a.ca a.cc d.cols
  or : ∃ l : List Ro, l.map (·.l) = d.rows ∧ OwnR w xb a.ra a.rc l ∧ ∀ q ∈ l, OwnV w xb q.a q.c q.l
  ks : Keeps [] w0 w
  k0 : w0.heap.size = xb
  rx : r ≠ xb
  mr : mb ≠ r
  mx : mb ≠ xb
  xr : xb ≤ r
  xm : xb ≤ mb
section
variable {w0 w w' : World} {xb r mb : Nat} {s : St} {d : Md} {a : Ma}
theorem RdAt.blk {N : Nat} {s : St} (h : RdAt N w r s) : ∃ cs, Blk w r 100 cs := by obtain ⟨ao, c, ev, hB, _⟩ := h; exact ⟨_, hB⟩
theorem own_of_one {N sz sz' n c : Nat} {e t : TypeId} {ao : Option Addr} {xs : List Value} {b : Nat} {cs : Array Value} (h : w.ownsRow N e sz (.slice ao n c) n xs) (hB : Blk w b t cs) (ht : t ≠ e) (hk : Keeps [b] w w') (_ : sz = sz' := by rfl) : w'.ownsRow N e sz (.slice ao n c) n xs :=
  ownsRow_keep h hk (fun x hx => by simp only [List.mem_singleton]; rintro rfl; exact ownsRow_ne h hB (fun e => ht e.symm) x hx rfl)
theorem MSt.keepB {b : Nat} {t : TypeId} {cs : Array Value} (h : MSt w0 w xb r mb s d a) (hB : Blk w b t cs) (h1 : t ≠ 5) (h2 : t ≠ 80) (h3 : t ≠ 9) (h4 : t ≠ 82) (h5 : t ≠ 116) (hk : Keeps [b] w w') {s' : St} (hr : RdAt xb w' r s') (hx : b ≠ xb) (hm : b ≠ mb) (hb : xb ≤ b) : MSt w0 w' xb r mb s' d a := by
  obtain ⟨l, q1, q2, q3⟩ := h.or
  have hk0 := h.k0
  exact ⟨hr, h.bx.keep hk (by simpa using fun e => hx e.symm), h.bm.keep hk (by simpa using fun e => hm e.symm), own_of_one h.od hB h1 hk, own_of_one h.oe hB h2 hk, own_of_one h.oc hB h3 hk,
    ⟨l, q1, own_of_one q2 hB h4 hk, fun q hq => own_of_one (q3 q hq) hB h5 hk⟩, h.ks.step hk (fun x hx => by simp at hx; right; omega), h.k0, h.rx, h.mr, h.mx, h.xr, h.xm⟩
theorem MSt.keepR (h : MSt w0 w xb r mb s d a) {s' : St} (hr : RdAt xb w' r s') (hk : Keeps [r] w w') : MSt w0 w' xb r mb s' d a := by
  obtain ⟨cs, hB⟩ := h.rd.blk
  exact h.keepB hB (by decide) (by decide) (by decide) (by decide) (by decide) hk hr h.rx (fun e => h.mr e.symm) h.xr
theorem MSt.keep0 (h : MSt w0 w xb r mb s d a) (hk : Keeps [] w w') : MSt w0 w' xb r mb s d a := by
  obtain ⟨l, q1, q2, q3⟩ := h.or
  exact ⟨h.rd.keep hk, h.bx.keep hk (by simp), h.bm.keep hk (by simp), ownsRow_keep h.od hk (by simp), ownsRow_keep h.oe hk (by simp), ownsRow_keep h.oc hk (by simp),
    ⟨l, q1, ownsRow_keep q2 hk (by simp), fun q hq => ownsRow_keep (q3 q hq) hk (by simp)⟩, h.ks.trans hk, h.k0, h.rx, h.mr, h.mx, h.xr, h.xm⟩
/-- a cell of the message is set; its lists stay -/
theorem MSt.put (h : MSt w0 w xb r mb s d a) (i : Nat) (v : Value) {d' : Md} {a' : Ma} (hs : (msgCells d a).setIfInBounds i v = msgCells d' a')
    (od : Own w xb a'.da a'.dc d'.data) (oe : OwnE w xb a'.ea a'.ec d'.es) (oc : OwnS w xb a'.ca a'.cc d'.cols) (or : ∃ l : List Ro, l.map (·.l) = d'.rows ∧ OwnR w xb a'.ra a'.rc l ∧ ∀ q ∈ l, OwnV w xb q.a q.c q.l) :
    MSt w0 (w.setCell ⟨mb, i, none⟩ v) xb r mb s d' a' := by
  have hk : Keeps [mb] w (w.setCell ⟨mb, i, none⟩ v) := (Keeps.refl [mb] w).set (p := ⟨mb, i, none⟩) (by simp) v
  obtain ⟨l, q1, q2, q3⟩ := or
  have hk0 := h.k0
  have hxm := h.xm
  exact ⟨h.rd.keepV h.bm hk (fun e => h.mr e.symm) h.xm (by decide), h.bx.keep hk (by simpa using fun e => h.mx e.symm), (h.bm.put i v).eq hs, own_of_one od h.bm (by decide) hk, own_of_one oe h.bm (by decide) hk, own_of_one oc h.bm (by decide) hk,
    ⟨l, q1, own_of_one q2 h.bm (by decide) hk, fun q hq => own_of_one (q3 q hq) h.bm (by decide) hk⟩, h.ks.step hk (fun x hx => by simp at hx; right; omega), h.k0, h.rx, h.mr, h.mx, h.xr, h.xm⟩
theorem RdAt.keepO {N n c sz : Nat} {e : TypeId} {ao : Option Addr} {xs : List Value} {s : St} (h : RdAt N w r s) (hO : w.ownsRow N e sz (.slice ao n c) n xs) (hk : Keeps (blks ao) w w') (h1 : 100 ≠ e) (h2 : 59 ≠ e) : RdAt N w' r s := by
  obtain ⟨cs, hB⟩ := h.blk
  exact h.keepL hk (fun hx => ownsRow_ne hO hB (fun e => h1 e.symm) r hx rfl) (fun x hx => (ownsRow_lt hO x hx).1) (fun g cs hg hx => ownsRow_ne hO hg (fun e => h2 e.symm) g hx rfl)
/-- an entry is appended, and its list laid into the message -/
theorem MSt.app_es (h : MSt w0 w xb r mb s d a) (hk : Keeps (blks a.ea) w w') {ao : Option Addr} {c : Nat} {l : List Ent} (hO : OwnE w' xb ao c l) :
    Blk w' mb 43 (msgCells d a) ∧ MSt w0 (w'.setCell ⟨mb, 6, none⟩ (.slice ao l.length c)) xb r mb s { d with es := l } { a with ea := ao, ec := c } := by
  obtain ⟨l2, q1, q2, q3⟩ := h.or
  have hm := h.bm.keep hk (fun hx => ownsRow_ne h.oe h.bm (by decide) mb hx rfl)
  have hk0 := h.k0
  have od := ownsRow_keep h.od hk (ownsRow_apart h.od h.oe (by decide))
  have oc := ownsRow_keep h.oc hk (ownsRow_apart h.oc h.oe (by decide))
  have o2 := ownsRow_keep q2 hk (ownsRow_apart q2 h.oe (by decide))
  have o3 := fun q hq => ownsRow_keep (q3 q hq) hk (ownsRow_apart (q3 q hq) h.oe (by decide))
  refine ⟨hm, ?_⟩
  have hks : Keeps [] w0 w' := h.ks.step hk (fun x hx => by have := (ownsRow_lt h.oe x hx).1; right; omega)
  have hM : Keeps [mb] w' (w'.setCell ⟨mb, 6, none⟩ (.slice ao l.length c)) := (Keeps.refl [mb] w').set (p := ⟨mb, 6, none⟩) (by simp) _
  have hxm := h.xm
  exact ⟨(h.rd.keepO h.oe hk (by decide) (by decide)).keepV hm hM (fun e => h.mr e.symm) h.xm (by decide), (h.bx.keep hk (fun hx => ownsRow_ne h.oe h.bx (by decide) xb hx rfl)).keep hM (by simpa using fun e => h.mx e.symm), (hm.put 6 _).eq (set_es d a ao c l),
    own_of_one od hm (by decide) hM, own_of_one hO hm (by decide) hM, own_of_one oc hm (by decide) hM, ⟨l2, q1, own_of_one o2 hm (by decide) hM, fun q hq => own_of_one (o3 q hq) hm (by decide) hM⟩,
    hks.step hM (fun x hx => by simp at hx; right; omega), h.k0, h.rx, h.mr, h.mx, h.xr, h.xm⟩
/-- a text is appended to the columns -/
theorem MSt.app_cols (h : MSt w0 w xb r mb s d a) (hk : Keeps (blks a.ca) w w') {ao : Option Addr} {c : Nat} {l : List ByteArray} (hO : OwnS w' xb ao c l) :
    Blk w' mb 43 (msgCells d a) ∧ MSt w0 (w'.setCell ⟨mb, 18, none⟩ (.slice ao l.length c)) xb r mb s { d with cols := l } { a with ca := ao, cc := c } := by
  obtain ⟨l2, q1, q2, q3⟩ := h.or
  have hm := h.bm.keep hk (fun hx => ownsRow_ne h.oc h.bm (by decide) mb hx rfl)
  have hk0 := h.k0
  have od := ownsRow_keep h.od hk (ownsRow_apart h.od h.oc (by decide))
  have oe := ownsRow_keep h.oe hk (ownsRow_apart h.oe h.oc (by decide))
  have o2 := ownsRow_keep q2 hk (ownsRow_apart q2 h.oc (by decide))
  have o3 := fun q hq => ownsRow_keep (q3 q hq) hk (ownsRow_apart (q3 q hq) h.oc (by decide))
  refine ⟨hm, ?_⟩
  have hks : Keeps [] w0 w' := h.ks.step hk (fun x hx => by have := (ownsRow_lt h.oc x hx).1; right; omega)
  have hM : Keeps [mb] w' (w'.setCell ⟨mb, 18, none⟩ (.slice ao l.length c)) := (Keeps.refl [mb] w').set (p := ⟨mb, 18, none⟩) (by simp) _
  have hxm := h.xm
  exact ⟨(h.rd.keepO h.oc hk (by decide) (by decide)).keepV hm hM (fun e => h.mr e.symm) h.xm (by decide), (h.bx.keep hk (fun hx => ownsRow_ne h.oc h.bx (by decide) xb hx rfl)).keep hM (by simpa using fun e => h.mx e.symm), (hm.put 18 _).eq (set_cols d a ao c l),
    own_of_one od hm (by decide) hM, own_of_one oe hm (by decide) hM, own_of_one hO hm (by decide) hM, ⟨l2, q1, own_of_one o2 hm (by decide) hM, fun q hq => own_of_one (o3 q hq) hm (by decide) hM⟩,
    hks.step hM (fun x hx => by simp at hx; right; omega), h.k0, h.rx, h.mr, h.mx, h.xr, h.xm⟩
/-- a row is appended to the rows -/
theorem MSt.app_rows (h : MSt w0 w xb r mb s d a) {l0 : List Ro} (q2 : OwnR w xb a.ra a.rc l0) (hk : Keeps (blks a.ra) w w') {ao : Option Addr} {c : Nat} {l : List Ro} (hO : OwnR w' xb ao c l) (q3 : ∀ q ∈ l, OwnV w xb q.a q.c q.l) :
    Blk w' mb 43 (msgCells d a) ∧ MSt w0 (w'.setCell ⟨mb, 19, none⟩ (.slice ao l.length c)) xb r mb s { d with rows := l.map (·.l) } { a with ra := ao, rc := c } := by
  have hm := h.bm.keep hk (fun hx => ownsRow_ne q2 h.bm (by decide) mb hx rfl)
  have hk0 := h.k0
  have od := ownsRow_keep h.od hk (ownsRow_apart h.od q2 (by decide))
  have oe := ownsRow_keep h.oe hk (ownsRow_apart h.oe q2 (by decide))
  have oc := ownsRow_keep h.oc hk (ownsRow_apart h.oc q2 (by decide))
  have o3 := fun q hq => ownsRow_keep (q3 q hq) hk (ownsRow_apart (q3 q hq) q2 (by decide))
  refine ⟨hm, ?_⟩
  have hks : Keeps [] w0 w' := h.ks.step hk (fun x hx => by have := (ownsRow_lt q2 x hx).1; right; omega)
  have hM : Keeps [mb] w' (w'.setCell ⟨mb, 19, none⟩ (.slice ao l.length c)) := (Keeps.refl [mb] w').set (p := ⟨mb, 19, none⟩) (by simp) _
  have hxm := h.xm
  have hset : (msgCells d a).setIfInBounds 19 (.slice ao l.length c) = msgCells { d with rows := l.map (·.l) } { a with ra := ao, rc := c } := by
    have := set_rows d a ao c (l.map (·.l))
    rw [List.length_map] at this
    exact this
  exact ⟨(h.rd.keepO q2 hk (by decide) (by decide)).keepV hm hM (fun e => h.mr e.symm) h.xm (by decide), (h.bx.keep hk (fun hx => ownsRow_ne q2 h.bx (by decide) xb hx rfl)).keep hM (by simpa using fun e => h.mx e.symm), (hm.put 19 _).eq hset,
    own_of_one od hm (by decide) hM, own_of_one oe hm (by decide) hM, own_of_one oc hm (by decide) hM, ⟨l, rfl, own_of_one hO hm (by decide) hM, fun q hq => own_of_one (o3 q hq) hm (by decide) hM⟩,
    hks.step hM (fun x hx => by simp at hx; right; omega), h.k0, h.rx, h.mr, h.mx, h.xr, h.xm⟩
theorem MSt.at (h : MSt w0 w xb r mb s d a) (hw : ∀ l ∈ d.rows, ∀ v ∈ l, (Lit.int .i64 v.int).wf = true) : MsgAt w d a := by
  obtain ⟨l, q1, q2, q3⟩ := h.or
  exact ⟨h.oe.re, h.od.rb, h.oc.rc, l, q1, q2.rr, fun q hq => ⟨(q3 q hq).rv, hw q.l (q1 ▸ List.mem_map_of_mem hq)⟩⟩
end
end Go.Proofs.YtllcidpmdmacjaaDoor
