/- The disk: Read, Sync, Remove. -/
import Derived.Test.YtcebbgmjbincbaaDoorDk5

namespace Go.Proofs.YtcebbgmjbincbaaDoor
open Go.RowKit Go.Lib

/-- what Read tells -/
def DSt.read (d : DSt) (n : List UInt8) : List UInt8 × DRes :=
  if d.off = true then ([], .down) else match mget n d.fs with
    | none => ([], .bad n 30)
    | some f => (f.b, .ok)

theorem clone_own (ao : Option Addr) (c : Nat) (l : List UInt8) (w : World) (h : Rb w ao c l) (hl : l.length ≤ 1000000000) :
    Calls Tryd.prog 52 #[.slice ao l.length c] w fun e w' => ∃ bo d, e = .returned (.slice bo l.length d) ∧ Own w' w.heap.size bo d l ∧ Keeps [] w w' := by
  cases ao with
  | none =>
    have hc := h.nil rfl
    subst hc
    have h0 : l = [] := List.eq_nil_of_length_eq_zero (by have := h.cap; omega)
    subst h0
    have q0 := fun (W : World) => Lib.run_eql_slice_nil (P := Tryd.prog) W 22 _ none 0 0 0 0 Tryd.underlying22
    go_enter Tryd.func52, Tryd.ntmps52
    go_wp2_with fail
    go_ret
    exact ⟨none, 0, rfl, Own.nil _ _, Keeps.refl _ _⟩
  | some ad =>
  obtain ⟨i, z, hi, hz, hsz, hby, hzc⟩ := infoB
  have q := fun (W : World) (a : Option Addr) (n c n' c' : Nat) => Lib.run_eql_slice_nil (P := Tryd.prog) W 22 _ a n c n' c' Tryd.underlying22
  have hk0 := (Keeps.refl [] w).alloc (.cells #[] 5)
  have hO0 : Own (w.alloc (.cells #[] 5)) w.heap.size (some ⟨w.heap.size, 0, none⟩) 0 [] := World.ownsRow_lit (base := w.heap.size) (e := 5) (size := 1) w #[] 0 (Nat.le_refl _) (by decide) rfl
  have h0 := h.keep0 hk0
  go_enter Tryd.func52, Tryd.ntmps52
  go_wp2_with (at_builtin; refine wpList_append_by _ rfl _ _ 22 22 rfl w.heap.size 5 i z 1 1 Tryd.underlying22 hi hz hsz hby hzc (some ⟨w.heap.size, 0, none⟩) _ 0 _ rfl hO0 _ rfl l.length _ (h0.src Tryd.underlying22) (by unfold maxLen; omega) (by omega) (by simp) ?_; intro a1 c1 w1 hO1 hk1 hb1)
  have hO2 : Own w1 w.heap.size a1 c1 l := Own.of hO1 rfl
  go_ret
  exact ⟨a1, c1, rfl, hO2, hk0.own hk1 hO0⟩

section
variable {w : World} {L : List Nat} {db : Nat} {d : DSt}
set_option maxRecDepth 100000 in
theorem dread (h : Disk w L db d) (n : List UInt8) : Calls Tryd.prog 15 #[.pointer (some ⟨db, 0, none⟩), .string ⟨n.toArray⟩] w fun e w' =>
    ∃ bo c ev, e = .returned (.tuple #[.slice bo (d.read n).1.length c, ev]) ∧ DE w' ev (d.read n).2 ∧ Own w' w.heap.size bo c (d.read n).1 ∧ Keeps [] w w' := by
  obtain ⟨mb, fl, h⟩ := h
  cases ho : d.off with
  | true =>
    rw [show d.read n = ([], .down) by simp [DSt.read, ho]]
    go_enter Tryd.func15, Tryd.ntmps15
    go_wp2_with fail
    refine (dfind_off h ho n).mono ?_
    rintro e w' ⟨rfl, hw⟩
    obtain rfl := hw.symm
    go_wp2_with fail
    go_ret2
    exact ⟨none, 0, _, rfl, rfl, Own.nil _ _, Keeps.refl _ _⟩
  | false =>
    cases hm : mget n fl with
    | none =>
      have hmd : mget n d.fs = none := by rw [h.mget, hm]; rfl
      rw [show d.read n = ([], .bad n 30) by simp [DSt.read, ho, hmd]]
      go_enter Tryd.func15, Tryd.ntmps15
      go_wp2_with fail
      refine (dfind_none h ho hm).mono ?_
      rintro e w1 ⟨ev, rfl, hE, hk1⟩
      obtain ⟨g, rfl, hg⟩ := hE
      go_wp2_with fail
      go_ret2
      exact ⟨none, 0, _, rfl, ⟨g, rfl, hg⟩, Own.nil _ _, hk1⟩
    | some x =>
      have hmd : mget n d.fs = some x.toFil := by rw [h.mget, hm]; rfl
      rw [show d.read n = (x.b, .ok) by simp [DSt.read, ho, hmd]]
      have hX : FileAt w x := h.files.file (n, x) (mget_mem hm)
      have hxc := hX.blk.cell
      have hxm := hX.most
      go_enter Tryd.func15, Tryd.ntmps15
      go_wp2_with fail
      refine (dfind_some h ho hm).mono ?_
      rintro e w' ⟨rfl, hw⟩
      obtain rfl := hw.symm
      go_wp2_with fail
      refine (clone_own x.ao x.c x.b w hX.own.rb (by omega)).mono ?_
      rintro e w2 ⟨bo, c, rfl, hO, hk2⟩
      clear hxc
      go_wp2_with fail
      go_ret2
      exact ⟨bo, c, _, rfl, rfl, hO, hk2⟩

/-- a file whose block turns alone -/
theorem FilesAt.turn_b {w w' : World} {mb : Nat} {fl : List (List UInt8 × FlM)} (h : FilesAt w mb fl) {n : List UInt8} {x x' : FlM} (hx : mget n fl = some x) (hfb : x'.fb = x.fb) (hao : x'.ao = x.ao) (hk : Keeps [x.fb] w w') (hB : Blk w' x.fb 102 #[.slice x'.ao x'.b.length x'.c, .int .i64 (x'.sure : Nat)]) (hO : OwnG w' x'.ao x'.c x'.b) (hs : x'.sure ≤ x'.b.length) (hm : x'.b.length ≤ 1048576) : FilesAt w' mb (mput n x' fl) :=
  h.turn hx hfb (hk.mono (fun y hy => by simp at hy; subst hy; exact .head _)) ⟨by rw [hfb]; exact hB, hO, hs, hm⟩ (fun y hy => .inl (by rw [← hao]; exact hy))
/-- the blocks of the disk are the same when a file turned within its blocks -/
theorem feet_sub {mb : Nat} {fl : List (List UInt8 × FlM)} {n : List UInt8} {x x' : FlM} (hx : mget n fl = some x) (hfb : x'.fb = x.fb) (hao : ∀ y ∈ blks x'.ao, y ∈ blks x.ao) : ∀ y ∈ feet mb (mput n x' fl), y ∈ feet mb fl := by
  intro y hy
  rcases mem_feet.1 hy with e | ⟨f, hf, hy⟩
  · exact mem_feet.2 (.inl e)
  · rcases mem_mput hf with rfl | hf
    · refine mem_feet.2 (.inr ⟨(n, x), mget_mem hx, ?_⟩)
      rcases List.mem_cons.1 hy with e | hy
      · rw [e, show ((n, x') : List UInt8 × FlM).2.fb = x.fb from hfb]; exact .head _
      · exact .tail _ (hao y hy)
    · exact mem_feet.2 (.inr ⟨f, hf, hy⟩)

set_option maxRecDepth 100000 in
theorem dsync (h : Disk w L db d) (n : List UInt8) (hc : d.count < 4611686018427387904) : Calls Tryd.prog 12 #[.pointer (some ⟨db, 0, none⟩), .string ⟨n.toArray⟩] w (DPost w L db (d.sync n)) := by
  obtain ⟨mb, fl, h⟩ := h
  have hdb := h.mem_db
  cases ho : d.off with
  | true =>
    rw [show d.sync n = (d, .down) by simp [DSt.sync, ho]]
    go_enter Tryd.func12, Tryd.ntmps12
    go_wp2_with fail
    refine (dfind_off h ho n).mono ?_
    rintro e w' ⟨rfl, hw⟩
    obtain rfl := hw.symm
    go_wp2_with fail
    go_ret
    exact h.refs (r := .down) rfl (Keeps.refl [] _)
  | false =>
    cases hm : mget n fl with
    | none =>
      have hmd : mget n d.fs = none := by rw [h.mget, hm]; rfl
      rw [show d.sync n = (d, .bad n 30) by simp [DSt.sync, ho, hmd]]
      go_enter Tryd.func12, Tryd.ntmps12
      go_wp2_with fail
      refine (dfind_none h ho hm).mono ?_
      rintro e w1 ⟨ev, rfl, hE, hk1⟩
      obtain ⟨g, rfl, hg⟩ := hE
      go_wp2_with fail
      go_ret
      exact h.refs (r := .bad n 30) ⟨g, rfl, hg⟩ hk1
    | some x =>
      have hmd : mget n d.fs = some x.toFil := by rw [h.mget, hm]; rfl
      by_cases h0 : d.halt = 0
      · rw [show d.sync n = (d.fall, .down) by simp [DSt.sync, ho, hmd, h0]]
        go_enter Tryd.func12, Tryd.ntmps12
        go_wp2_with fail
        refine (dfind_some h ho hm).mono ?_
        rintro e w' ⟨rfl, hw⟩
        obtain rfl := hw.symm
        go_wp2_with fail
        refine (ddoes_zero h h0).mono ?_
        rintro e w3 ⟨rfl, h3, hk3⟩
        go_wp2_with fail
        go_ret
        exact ⟨_, L, rfl, rfl, ⟨mb, fl, h3⟩, hk3.mono (by simpa using hdb), fun _ hx => .inl hx⟩
      · rw [show d.sync n = ({ d.tick with fs := mput n ⟨x.b, x.b.length⟩ d.fs }, .ok) by simp [DSt.sync, ho, hmd, h0]]
        go_enter Tryd.func12, Tryd.ntmps12
        go_wp2_with fail
        refine (dfind_some h ho hm).mono ?_
        rintro e w' ⟨rfl, hw⟩
        obtain rfl := hw.symm
        go_wp2_with fail
        refine (ddoes_ok h h0 hc).mono ?_
        rintro e w3 ⟨rfl, h3, hk3⟩
        have hX : FileAt w3 x := h3.files.file (n, x) (mget_mem hm)
        have hxc := hX.blk.cell
        have hxf := hX.blk.free
        have hkb := (Keeps.refl [x.fb] w3).set (p := ⟨x.fb, 1, none⟩) (.inl (by simp)) (.int .i64 (x.b.length : Nat))
        have hF := h3.files.turn_b (x' := { x with sure := x.b.length }) hm rfl rfl hkb ((hX.blk.put 1 _).eq (by simp)) (hX.own.keep hkb (fun y hy => by simp; rintro rfl; exact hX.ne_buf hX hy)) (Nat.le_refl _) hX.most
        have hxm : x.fb ∈ L := by rw [h3.feet]; exact .tail _ (mem_feet.2 (.inr ⟨(n, x), mget_mem hm, .head _⟩))
        have hB : Blk (w3.setCell ⟨x.fb, 1, none⟩ (.int .i64 (x.b.length : Nat))) db 93 #[.map (some mb), .int .i64 (d.room : Nat), .int .i64 (usedOf (mput n (⟨x.b, x.b.length⟩ : Fil) d.fs) : Nat), .int .i64 ((d.count + 1 : Nat) : Int), .int .i64 d.tick.halt, .bool d.off] := by
          have e : usedOf (mput n (⟨x.b, x.b.length⟩ : Fil) d.fs) = usedOf d.fs := by
            have := usedOf_mput (n := n) (f := ⟨x.b, x.b.length⟩) (fs := d.fs)
            rw [hmd] at this
            simpa using this
          rw [e]
          exact h3.blk.keep hkb (by simp; rintro rfl; exact h3.db_off (mem_feet.2 (.inr ⟨(n, x), mget_mem hm, .head _⟩)))
        have hok : ({ d.tick with fs := mput n ⟨x.b, x.b.length⟩ d.fs } : DSt).Ok := by
          refine h3.ok.put (n := n) (f := ⟨x.b, x.b.length⟩) (Nat.le_refl _) hX.most ?_ (fun e => by rw [show mget n d.tick.fs = mget n d.fs from rfl, hmd] at e; cases e)
          have := h3.ok.used
          rw [show d.tick.got n = x.toFil from DSt.got_some (d := d.tick) hmd]
          show usedOf d.fs + x.b.length ≤ d.room + x.b.length
          have h4 : usedOf d.tick.fs ≤ d.tick.room := this
          have h5 : usedOf d.fs ≤ d.room := h4
          omega
        have FIN := Lib.hid (show DPost w L db ({ d.tick with fs := mput n ⟨x.b, x.b.length⟩ d.fs }, .ok) (.returned .nilIface) (w3.setCell ⟨x.fb, 1, none⟩ (.int .i64 (x.b.length : Nat))) from
          ⟨_, _, rfl, rfl, ⟨mb, _, hB, hF, by rw [fils_mput, ← h.fs], rfl, hok⟩, (hk3.mono (by simpa using hdb)).trans (hkb.mono (by simpa using hxm)), fun y hy => .inl (by
            rcases List.mem_cons.1 hy with rfl | hy
            · exact hdb
            · rw [h3.feet]; exact .tail _ (feet_sub (x' := { x with sure := x.b.length }) hm rfl (fun y hy => hy) y hy))⟩)
        clear hF hB hok hkb hX
        go_wp2_with fail
        go_ret
        exact FIN.out
end
end Go.Proofs.YtcebbgmjbincbaaDoor
