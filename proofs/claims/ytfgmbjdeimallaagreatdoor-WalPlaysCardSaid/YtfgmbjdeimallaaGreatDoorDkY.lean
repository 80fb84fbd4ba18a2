/- The disk: Read, Sync, Remove. -/
import Derived.Test.YtfgmbjdeimallaaGreatDoorDk5

namespace Go.Proofs.YtfgmbjdeimallaaGreatDoor
open Go.RowKit Go.Lib

/-- what Read tells -/
def DSt.read (d : DSt) (n : List UInt8) : List UInt8 × DRes :=
  if d.off = true then ([], .down) else match mget n d.fs with
    | none => ([], .bad n 30)
    | some f => (f.b, .ok)

theorem clone_own (ao : Option Addr) (c : Nat) (l : List UInt8) (w : World) (h : Rb w ao c l) (hl : l.length ≤ 1000000000) :
    Calls Tryz.prog 42 #[.slice ao l.length c] w fun e w' => ∃ bo d, e = .returned (.slice bo l.length d) ∧ Own w' w.heap.size bo d l ∧ Keeps [] w w' := by
  cases ao with
  | none =>
    have hc := h.nil rfl
    subst hc
    have h0 : l = [] := List.eq_nil_of_length_eq_zero (by have := h.cap; omega)
    subst h0
    have q0 := fun (W : World) => Lib.run_eql_slice_nil (P := Tryz.prog) W 26 _ none 0 0 0 0 Tryz.underlying26
    go_enter Tryz.func42, Tryz.ntmps42
    go_wp2_with fail
    go_ret
    exact ⟨none, 0, rfl, Own.nil _ _, Keeps.refl _ _⟩
  | some ad =>
  obtain ⟨i, z, hi, hz, hsz, hby, hzc⟩ := infoB
  have q := fun (W : World) (a : Option Addr) (n c n' c' : Nat) => Lib.run_eql_slice_nil (P := Tryz.prog) W 26 _ a n c n' c' Tryz.underlying26
  have hk0 := (Keeps.refl [] w).alloc (.cells #[] 5)
  have hO0 : Own (w.alloc (.cells #[] 5)) w.heap.size (some ⟨w.heap.size, 0, none⟩) 0 [] := World.ownsRow_lit (base := w.heap.size) (e := 5) (size := 1) w #[] 0 (Nat.le_refl _) (by decide) rfl
  have h0 := h.keep0 hk0
  go_enter Tryz.func42, Tryz.ntmps42
  go_wp2_with (at_builtin; refine wpList_append_by _ rfl _ _ 26 26 rfl w.heap.size 5 i z 1 1 Tryz.underlying26 hi hz hsz hby hzc (some ⟨w.heap.size, 0, none⟩) _ 0 _ rfl hO0 _ rfl l.length _ (h0.src Tryz.underlying26) (by unfold maxLen; omega) (by omega) (by simp) ?_; intro a1 c1 w1 hO1 hk1 hb1)
  have hO2 : Own w1 w.heap.size a1 c1 l := Own.of hO1 rfl
  go_ret
  exact ⟨a1, c1, rfl, hO2, hk0.own hk1 hO0⟩

section
variable {w : World} {L : List Nat} {db : Nat} {d : DSt}
set_option maxRecDepth 100000 in
theorem dread (h : Disk w L db d) (n : List UInt8) : Calls Tryz.prog 17 #[.pointer (some ⟨db, 0, none⟩), .string ⟨n.toArray⟩] w fun e w' =>
    ∃ bo c ev, e = .returned (.tuple #[.slice bo (d.read n).1.length c, ev]) ∧ DE w' ev (d.read n).2 ∧ Own w' w.heap.size bo c (d.read n).1 ∧ Keeps [] w w' := by
  obtain ⟨mb, fl, h⟩ := h
  cases ho : d.off with
  | true =>
    rw [show d.read n = ([], .down) by simp [DSt.read, ho]]
    go_enter Tryz.func17, Tryz.ntmps17
    go_wp2_with fail
    refine (dfind_off h ho n).mono ?_
    rintro e w' ⟨rfl, hw⟩
    obtain rfl := hw.symm
    go_wp2_with fail
    go_ret2
    exact ⟨none, 0, _, rfl, rfl, Own.nil _ _, Keeps.refl _ _⟩
  | false =>
    cases hm : mget n fl with
    | none =>
      have hmd : mget n d.fs = none := by rw [h.mget, hm]; rfl
      rw [show d.read n = ([], .bad n 30) by simp [DSt.read, ho, hmd]]
      go_enter Tryz.func17, Tryz.ntmps17
      go_wp2_with fail
      refine (dfind_none h ho hm).mono ?_
      rintro e w1 ⟨ev, rfl, hE, hk1⟩
      obtain ⟨g, rfl, hg⟩ := hE
      go_wp2_with fail
      go_ret2
      exact ⟨none, 0, _, rfl, ⟨g, rfl, hg⟩, Own.nil _ _, hk1⟩
    | some x =>
      have hmd : mget n d.fs = some x.toFil := by rw [h.mget, hm]; rfl
      rw [show d.read n = (x.b, .ok) by simp [DSt.read, ho, hmd]]
      have hX : FileAt w x := h.files.file (n, x) (mget_mem hm)
      have hxc := hX.blk.cell
      have hxm := hX.most
      go_enter Tryz.func17, Tryz.ntmps17
      go_wp2_with fail
      refine (dfind_some h ho hm).mono ?_
      rintro e w' ⟨rfl, hw⟩
      obtain rfl := hw.symm
      go_wp2_with fail
      refine (clone_own x.ao x.c x.b w hX.own.rb (by omega)).mono ?_
      rintro e w2 ⟨bo, c, rfl, hO, hk2⟩
      clear hxc
      go_wp2_with fail
      go_ret2
      exact ⟨bo, c, _, rfl, rfl, hO, hk2⟩

/-- a file whose block turns alone -/
theorem FilesAt.turn_b {w w' : World} {mb : Nat} {fl : List (List UInt8 × FlM)} (h : FilesAt w mb fl) {n : List UInt8} {x x' : FlM} (hx : mget n fl = some x) (hfb : x'.fb = x.fb) (hao : x'.ao = x.ao) (hk : Keeps [x.fb] w w') (hB : Blk w' x.fb 79 #[.slice x'.ao x'.b.length x'.c, .int .i64 (x'.sure : Nat)]) (hO : OwnG w' x'.ao x'.c x'.b) (hs : x'.sure ≤ x'.b.length) (hm : x'.b.length ≤ 1048576) : FilesAt w' mb (mput n x' fl) :=
  h.turn hx hfb (hk.mono (fun y hy => by simp at hy; subst hy; exact .head _)) ⟨by rw [hfb]; exact hB, hO, hs, hm⟩ (fun y hy => .inl (by rw [← hao]; exact hy))
/-- the blocks of the disk are the same when a file turned within its blocks -/
theorem feet_sub {mb : Nat} {fl : List (List UInt8 × FlM)} {n : List UInt8} {x x' : FlM} (hx : mget n fl = some x) (hfb : x'.fb = x.fb) (hao : ∀ y ∈ blks x'.ao, y ∈ blks x.ao) : ∀ y ∈ feet mb (mput n x' fl), y ∈ feet mb fl := by
  intro y hy
  rcases mem_feet.1 hy with e | ⟨f, hf, hy⟩
  · exact mem_feet.2 (.inl e)
  · rcases mem_mput hf with rfl | hf
    · refine mem_feet.2 (.inr ⟨(n, x), mget_mem hx, ?_⟩)
      rcases List.mem_cons.1 hy with e | hy
      · rw [e, show ((n, x') : List UInt8 × FlM).2.fb = x.fb from hfb]; exact .head _
      · exact .tail _ (hao y hy)
    · exact mem_feet.2 (.inr ⟨f, hf, hy⟩)

set_option maxRecDepth 100000 in
theorem dsync (h : Disk w L db d) (n : List UInt8) (hc : d.count < 4611686018427387904) : Calls Tryz.prog 9 #[.pointer (some ⟨db, 0, none⟩), .string ⟨n.toArray⟩] w (DPost w L db (d.sync n)) := by
  obtain ⟨mb, fl, h⟩ := h
  have hdb := h.mem_db
  cases ho : d.off with
  | true =>
    rw [show d.sync n = (d, .down) by simp [DSt.sync, ho]]
    go_enter Tryz.func9, Tryz.ntmps9
    go_wp2_with fail
    refine (dfind_off h ho n).mono ?_
    rintro e w' ⟨rfl, hw⟩
    obtain rfl := hw.symm
    go_wp2_with fail
    go_ret
    exact h.refs (r := .down) rfl (Keeps.refl [] _)
  | false =>
    cases hm : mget n fl with
    | none =>
      have hmd : mget n d.fs = none := by rw [h.mget, hm]; rfl
      rw [show d.sync n = (d, .bad n 30) by simp [DSt.sync, ho, hmd]]
      go_enter Tryz.func9, Tryz.ntmps9
      go_wp2_with fail
      refine (dfind_none h ho hm).mono ?_
      rintro e w1 ⟨ev, rfl, hE, hk1⟩
      obtain ⟨g, rfl, hg⟩ := hE
      go_wp2_with fail
      go_ret
      exact h.refs (r := .bad n 30) ⟨g, rfl, hg⟩ hk1
    | some x =>
      have hmd : mget n d.fs = some x.toFil := by rw [h.mget, hm]; rfl
      by_cases h0 : d.halt = 0
      · rw [show d.sync n = (d.fall, .down) by simp [DSt.sync, ho, hmd, h0]]
        go_enter Tryz.func9, Tryz.ntmps9
        go_wp2_with fail
        refine (dfind_some h ho hm).mono ?_
        rintro e w' ⟨rfl, hw⟩
        obtain rfl := hw.symm
        go_wp2_with fail
        refine (ddoes_zero h h0).mono ?_
        rintro e w3 ⟨rfl, h3, hk3⟩
        go_wp2_with fail
        go_ret
        exact ⟨_, L, rfl, rfl, ⟨mb, fl, h3⟩, hk3.mono (by simpa using hdb), fun _ hx => .inl hx⟩
      · rw [show d.sync n = ({ d.tick with fs := mput n ⟨x.b, x.b.length⟩ d.fs }, .ok) by simp [DSt.sync, ho, hmd, h0]]
        go_enter Tryz.func9, Tryz.ntmps9
        go_wp2_with fail
        refine (dfind_some h ho hm).mono ?_
        rintro e w' ⟨rfl, hw⟩
        obtain rfl := hw.symm
        go_wp2_with fail
        refine (ddoes_ok h h0 hc).mono ?_
        rintro e w3 ⟨rfl, h3, hk3⟩
        have hX : FileAt w3 x := h3.files.file (n, x) (mget_mem hm)
        have hxc := hX.blk.cell
        have hxf := hX.blk.free
        have hkb := (Keeps.refl [x.fb] w3).set (p := ⟨x.fb, 1, none⟩) (.inl (by simp)) (.int .i64 (x.b.length : Nat))
        have hF := h3.files.turn_b (x' := { x with sure := x.b.length }) hm rfl rfl hkb ((hX.blk.put 1 _).eq (by simp)) (hX.own.keep hkb (fun y hy => by simp; rintro rfl; exact hX.ne_buf hX hy)) (Nat.le_refl _) hX.most
        have hxm : x.fb ∈ L := by rw [h3.feet]; exact .tail _ (mem_feet.2 (.inr ⟨(n, x), mget_mem hm, .head _⟩))
        have hB : Blk (w3.setCell ⟨x.fb, 1, none⟩ (.int .i64 (x.b.length : Nat))) db 70 #[.map (some mb), .int .i64 (d.room : Nat), .int .i64 (usedOf (mput n (⟨x.b, x.b.length⟩ : Fil) d.fs) : Nat), .int .i64 ((d.count + 1 : Nat) : Int), .int .i64 d.tick.halt, .bool d.off] := by
          have e : usedOf (mput n (⟨x.b, x.b.length⟩ : Fil) d.fs) = usedOf d.fs := by
            have := usedOf_mput (n := n) (f := ⟨x.b, x.b.length⟩) (fs := d.fs)
            rw [hmd] at this
            simpa using this
          rw [e]
          exact h3.blk.keep hkb (by simp; rintro rfl; exact h3.db_off (mem_feet.2 (.inr ⟨(n, x), mget_mem hm, .head _⟩)))
        have hok : ({ d.tick with fs := mput n ⟨x.b, x.b.length⟩ d.fs } : DSt).Ok := by
          refine h3.ok.put (n := n) (f := ⟨x.b, x.b.length⟩) (Nat.le_refl _) hX.most ?_ (fun e => by rw [show mget n d.tick.fs = mget n d.fs from rfl, hmd] at e; cases e)
          have := h3.ok.used
          rw [show d.tick.got n = x.toFil from DSt.got_some (d := d.tick) hmd]
          show usedOf d.fs + x.b.length ≤ d.room + x.b.length
          have h4 : usedOf d.tick.fs ≤ d.tick.room := this
          have h5 : usedOf d.fs ≤ d.room := h4
          omega
        have FIN := Lib.hid (show DPost w L db ({ d.tick with fs := mput n ⟨x.b, x.b.length⟩ d.fs }, .ok) (.returned .nilIface) (w3.setCell ⟨x.fb, 1, none⟩ (.int .i64 (x.b.length : Nat))) from
          ⟨_, _, rfl, rfl, ⟨mb, _, hB, hF, by rw [fils_mput, ← h.fs], rfl, hok⟩, (hk3.mono (by simpa using hdb)).trans (hkb.mono (by simpa using hxm)), fun y hy => .inl (by
            rcases List.mem_cons.1 hy with rfl | hy
            · exact hdb
            · rw [h3.feet]; exact .tail _ (feet_sub (x' := { x with sure := x.b.length }) hm rfl (fun y hy => hy) y hy))⟩)
        clear hF hB hok hkb hX
        go_wp2_with fail
        go_ret
        exact FIN.out
end
end Go.Proofs.YtfgmbjdeimallaaGreatDoor
/- The disk: Remove, Rename. -/

namespace Go.Proofs.YtfgmbjdeimallaaGreatDoor
open Go.RowKit Go.Lib


section
variable {w : World} {L : List Nat} {db : Nat} {d : DSt}
set_option maxRecDepth 100000 in
theorem dremove (h : Disk w L db d) (n : List UInt8) (hc : d.count < 4611686018427387904) : Calls Tryz.prog 32 #[.pointer (some ⟨db, 0, none⟩), .string ⟨n.toArray⟩] w (DPost w L db (d.remove n)) := by
  obtain ⟨mb, fl, h⟩ := h
  have hdb := h.mem_db
  cases ho : d.off with
  | true =>
    rw [show d.remove n = (d, .down) by simp [DSt.remove, ho]]
    go_enter Tryz.func32, Tryz.ntmps32
    go_wp2_with fail
    refine (dfind_off h ho n).mono ?_
    rintro e w' ⟨rfl, hw⟩
    obtain rfl := hw.symm
    go_wp2_with fail
    go_ret
    exact h.refs (r := .down) rfl (Keeps.refl [] _)
  | false =>
    cases hm : mget n fl with
    | none =>
      have hmd : mget n d.fs = none := by rw [h.mget, hm]; rfl
      rw [show d.remove n = (d, .bad n 30) by simp [DSt.remove, ho, hmd]]
      go_enter Tryz.func32, Tryz.ntmps32
      go_wp2_with fail
      refine (dfind_none h ho hm).mono ?_
      rintro e w1 ⟨ev, rfl, hE, hk1⟩
      obtain ⟨g, rfl, hg⟩ := hE
      go_wp2_with fail
      go_ret
      exact h.refs (r := .bad n 30) ⟨g, rfl, hg⟩ hk1
    | some x =>
      have hmd : mget n d.fs = some x.toFil := by rw [h.mget, hm]; rfl
      by_cases h0 : d.halt = 0
      · rw [show d.remove n = (d.fall, .down) by simp [DSt.remove, ho, hmd, h0]]
        go_enter Tryz.func32, Tryz.ntmps32
        go_wp2_with fail
        refine (dfind_some h ho hm).mono ?_
        rintro e w' ⟨rfl, hw⟩
        obtain rfl := hw.symm
        go_wp2_with fail
        refine (ddoes_zero h h0).mono ?_
        rintro e w3 ⟨rfl, h3, hk3⟩
        go_wp2_with fail
        go_ret
        exact ⟨_, L, rfl, rfl, ⟨mb, fl, h3⟩, hk3.mono (by simpa using hdb), fun _ hx => .inl hx⟩
      · rw [show d.remove n = ({ d.tick with fs := mdel n d.fs }, .ok) by simp [DSt.remove, ho, hmd, h0]]
        go_enter Tryz.func32, Tryz.ntmps32
        go_wp2_with fail
        refine (dfind_some h ho hm).mono ?_
        rintro e w' ⟨rfl, hw⟩
        obtain rfl := hw.symm
        go_wp2_with fail
        refine (ddoes_ok h h0 hc).mono ?_
        rintro e w3 ⟨rfl, h3, hk3⟩
        go_upto_region 6 with (fail)
        refine wp_region_still_tail 12 (by kernel_rfl) (by kernel_rfl) ?_
        change wpStill _ _ (World.drew _) _ _ _
        have hX : FileAt w3 x := h3.files.file (n, x) (mget_mem hm)
        have hxc := hX.blk.cell
        have hB3 : Blk w3 db 70 #[.map (some mb), .int .i64 (d.room : Nat), .int .i64 (usedOf d.fs : Nat), .int .i64 ((d.count + 1 : Nat) : Int), .int .i64 d.tick.halt, .bool d.off] := h3.blk
        have hbc := hB3.cell
        have hbf := hB3.free
        have hus : usedOf (mdel n d.fs) + x.b.length = usedOf d.fs := by
          have := usedOf_mdel (n := n) (fs := d.fs)
          rw [hmd] at this
          simpa using this
        have huM : usedOf d.fs ≤ 9223372036854775807 := Nat.le_trans h3.ok.used h3.ok.room
        have q1 : IntKind.i64.wrap ((usedOf d.fs : Int) - (x.b.length : Int)) = (usedOf (mdel n d.fs) : Nat) := by
          rw [IntWalk.i64_in _ (by omega)]
          omega
        simp only [List.take_succ_cons, List.take_zero, List.drop_succ_cons, List.drop_zero]
        repeat still_step
        refine wpStill_nil ?_
        change wpList _ _ _ _ _ (World.drew _)
        go_upto_region 7 with (fail)
        have hB4 := (hB3.put 2 (.int .i64 (usedOf (mdel n d.fs) : Nat))).drew
        have hk4 := ((Keeps.refl [db] w3).set (p := ⟨db, 2, none⟩) (.inl (by simp)) (.int .i64 (usedOf (mdel n d.fs) : Nat))).drew
        generalize World.drew (World.setCell w3 _ _) = w4 at *
        replace hB4 := hB4.eq (cs' := #[.map (some mb), .int .i64 (d.room : Nat), .int .i64 (usedOf (mdel n d.fs) : Nat), .int .i64 ((d.count + 1 : Nat) : Int), .int .i64 d.tick.halt, .bool d.off]) (by simp)
        have hF4 := h3.files.keep hk4 (fun y hy => by simp; rintro rfl; exact h3.db_off hy)
        have hM4 := hF4.map
        have hmbdb : db ≠ mb := hM4.ne_blk hB4
        clear hX hxc hbc hbf q1 hB3
        have hbc := hB4.cell
        go_upto_region 8 with (at_delete; refine wpList_delete_kv _ rfl _ _ 68 9 rfl 71 Tryz.underlying68 Tryz.underlying9 mb (ptrs fl) rfl hM4 n rfl ?_; intro w5 hM5 hk5)
        have hF5 := hF4.del hk5 hM5
        have hB5 := hB4.keep hk5 (by simpa using hmbdb)
        have hmbL : mb ∈ L := by rw [h3.feet]; exact .tail _ (mem_feet.2 (.inl rfl))
        have hok : ({ d.tick with fs := mdel n d.fs } : DSt).Ok := h3.ok.del (n := n)
        have FIN := Lib.hid (show DPost w L db ({ d.tick with fs := mdel n d.fs }, .ok) (.returned .nilIface) w5 from
          ⟨_, _, rfl, rfl, ⟨mb, _, hB5, hF5, by rw [fils_mdel, ← h.fs], rfl, hok⟩, ((hk3.trans hk4).mono (by simpa using hdb)).trans (hk5.mono (by simpa using hmbL)), fun y hy => .inl (by
            rcases List.mem_cons.1 hy with rfl | hy
            · exact hdb
            · rw [h3.feet]
              rcases mem_feet.1 hy with e | ⟨f, hf, hy⟩
              · exact .tail _ (mem_feet.2 (.inl e))
              · exact .tail _ (mem_feet.2 (.inr ⟨f, mem_mdel hf, hy⟩)))⟩)
        clear hF4 hF5 hB4 hB5 hok hk5 hk4 hM5 hM4 hbc
        go_wp2_with fail
        go_ret
        exact FIN.out

set_option maxRecDepth 100000 in
theorem drename_off (h : Disk w L db d) (ho : d.off = true) (n m : List UInt8) : Calls Tryz.prog 78 #[.pointer (some ⟨db, 0, none⟩), .string ⟨n.toArray⟩, .string ⟨m.toArray⟩] w (DPost w L db (d.rename n m)) := by
  obtain ⟨mb, fl, h⟩ := h
  rw [show d.rename n m = (d, .down) by simp [DSt.rename, ho]]
  go_enter Tryz.func78, Tryz.ntmps78
  go_wp2_with fail
  refine (dfind_off h ho n).mono ?_
  rintro e w' ⟨rfl, hw⟩
  obtain rfl := hw.symm
  go_wp2_with fail
  refine (is_class 32 32 _).mono ?_
  rintro e w' ⟨rfl, hw⟩
  obtain rfl := hw.symm
  simp only [decide_true]
  go_wp2_with fail
  go_ret
  exact h.refs (r := .down) rfl (Keeps.refl [] _)

set_option maxRecDepth 100000 in
theorem drename_none {mb : Nat} {fl : List (List UInt8 × FlM)} (h : DiskAt w L db d mb fl) (ho : d.off = false) (n m : List UInt8) (hm' : m.length ≤ 1000000) (hm : mget n fl = none) : Calls Tryz.prog 78 #[.pointer (some ⟨db, 0, none⟩), .string ⟨n.toArray⟩, .string ⟨m.toArray⟩] w (DPost w L db (d.rename n m)) := by
  have hmd : mget n d.fs = none := by rw [h.mget, hm]; rfl
  cases hr : right m with
  | false =>
    rw [show d.rename n m = (d, .bad m 20) by simp [DSt.rename, ho, hr]]
    go_enter Tryz.func78, Tryz.ntmps78
    go_wp2_with fail
    refine (dfind_none h ho hm).mono ?_
    rintro e w1 ⟨ev, rfl, hE, hk1⟩
    go_wp2_with fail
    refine (is_de hE 32 (by decide)).mono ?_
    rintro e w' ⟨rfl, hw⟩
    obtain rfl := hw.symm
    rw [show decide ((DRes.bad n 30).cls = 32) = false from rfl]
    have HE := Lib.hid hE
    clear hE
    go_wp2_with fail
    refine (right_any m w1 hm').mono ?_
    rintro e w' ⟨rfl, hw⟩
    obtain rfl := hw.symm
    rw [hr]
    go_wp2_with fail
    refine (fault_any m 20 w1).mono ?_
    rintro e w2 ⟨ev2, rfl, hE2, hk2⟩
    go_wp2_with fail
    go_ret
    exact h.refs hE2 (hk1.trans hk2)
  | true =>
    rw [show d.rename n m = (d, .bad n 30) by simp [DSt.rename, ho, hr, hmd]]
    go_enter Tryz.func78, Tryz.ntmps78
    go_wp2_with fail
    refine (dfind_none h ho hm).mono ?_
    rintro e w1 ⟨ev, rfl, hE, hk1⟩
    obtain ⟨g, rfl, hg⟩ := hE
    go_wp2_with fail
    refine (is_withinD g 30 32 w1 (hg.cell 1)).mono ?_
    rintro e w' ⟨rfl, hw⟩
    obtain rfl := hw.symm
    rw [show decide ((30 : Int) = 32) = false from rfl]
    have HG := Lib.hid hg
    clear hg
    go_wp2_with fail
    refine (right_any m w1 hm').mono ?_
    rintro e w' ⟨rfl, hw⟩
    obtain rfl := hw.symm
    rw [hr]
    go_wp2_with fail
    go_ret
    exact h.refs (r := .bad n 30) ⟨g, rfl, HG.out⟩ hk1
end
end Go.Proofs.YtfgmbjdeimallaaGreatDoor
/- The disk: Rename of what is there. -/

namespace Go.Proofs.YtfgmbjdeimallaaGreatDoor
open Go.RowKit Go.Lib


theorem mem_mdel_ne {α : Type} {s : List UInt8} {x : List UInt8 × α} : ∀ {fs : List (List UInt8 × α)}, (fs.map (·.1)).Nodup → x ∈ mdel s fs → x.1 ≠ s
  | [], _, h => by simp [mdel] at h
  | f :: r, hn, h => by
    simp only [List.map_cons, List.nodup_cons] at hn
    unfold mdel at h
    by_cases e : f.1 = s
    · rw [if_pos e] at h
      exact fun e2 => hn.1 (by rw [e, ← e2]; exact List.mem_map.2 ⟨x, h, rfl⟩)
    · rw [if_neg e] at h
      rcases List.mem_cons.1 h with rfl | h
      · exact e
      · exact mem_mdel_ne hn.2 h
section
variable {w : World} {L : List Nat} {db : Nat} {d : DSt} {mb : Nat} {fl : List (List UInt8 × FlM)}
set_option maxRecDepth 100000 in
set_option maxHeartbeats 4000000 in
theorem drename_some (h : DiskAt w L db d mb fl) (ho : d.off = false) (n m : List UInt8) (hm' : m.length ≤ 1000000) {x : FlM} (hm : mget n fl = some x) (hc : d.count < 4611686018427387904) : Calls Tryz.prog 78 #[.pointer (some ⟨db, 0, none⟩), .string ⟨n.toArray⟩, .string ⟨m.toArray⟩] w (DPost w L db (d.rename n m)) := by
  have hmd : mget n d.fs = some x.toFil := by rw [h.mget, hm]; rfl
  have hdb := h.mem_db
  cases hr : right m with
  | false =>
    rw [show d.rename n m = (d, .bad m 20) by simp [DSt.rename, ho, hr]]
    go_enter Tryz.func78, Tryz.ntmps78
    go_wp2_with fail
    refine (dfind_some h ho hm).mono ?_
    rintro e w' ⟨rfl, hw⟩
    obtain rfl := hw.symm
    go_wp2_with fail
    refine (is_nil 32 _).mono ?_
    rintro e w' ⟨rfl, hw⟩
    obtain rfl := hw
    go_wp2_with fail
    refine (right_any m _ hm').mono ?_
    rintro e w' ⟨rfl, hw⟩
    obtain rfl := hw.symm
    rw [hr]
    go_wp2_with fail
    refine (fault_any m 20 _).mono ?_
    rintro e w2 ⟨ev2, rfl, hE2, hk2⟩
    go_wp2_with fail
    go_ret
    exact h.refs hE2 hk2
  | true =>
    by_cases h0 : d.halt = 0
    · rw [show d.rename n m = (d.fall, .down) by simp [DSt.rename, ho, hr, hmd, h0]]
      go_enter Tryz.func78, Tryz.ntmps78
      go_wp2_with fail
      refine (dfind_some h ho hm).mono ?_
      rintro e w' ⟨rfl, hw⟩
      obtain rfl := hw.symm
      go_wp2_with fail
      refine (is_nil 32 _).mono ?_
      rintro e w' ⟨rfl, hw⟩
      obtain rfl := hw
      go_wp2_with fail
      refine (right_any m _ hm').mono ?_
      rintro e w' ⟨rfl, hw⟩
      obtain rfl := hw.symm
      rw [hr]
      go_wp2_with fail
      refine (ddoes_zero h h0).mono ?_
      rintro e w3 ⟨rfl, h3, hk3⟩
      go_wp2_with fail
      go_ret
      exact ⟨_, L, rfl, rfl, ⟨mb, fl, h3⟩, hk3.mono (by simpa using hdb), fun _ hx => .inl hx⟩
    · by_cases hne : n = m
      · subst hne
        rw [show d.rename n n = (d.tick, .ok) by simp [DSt.rename, ho, hr, hmd, h0]]
        go_enter Tryz.func78, Tryz.ntmps78
        go_wp2_with fail
        refine (dfind_some h ho hm).mono ?_
        rintro e w' ⟨rfl, hw⟩
        obtain rfl := hw.symm
        go_wp2_with fail
        refine (is_nil 32 _).mono ?_
        rintro e w' ⟨rfl, hw⟩
        obtain rfl := hw
        go_wp2_with fail
        refine (right_any n _ hm').mono ?_
        rintro e w' ⟨rfl, hw⟩
        obtain rfl := hw.symm
        rw [hr]
        go_wp2_with fail
        refine (ddoes_ok h h0 hc).mono ?_
        rintro e w3 ⟨rfl, h3, hk3⟩
        go_wp2_with fail
        go_ret
        exact ⟨_, L, rfl, rfl, ⟨mb, fl, h3⟩, hk3.mono (by simpa using hdb), fun _ hx => .inl hx⟩
      · rw [show d.rename n m = ({ d.tick with fs := mput m x.toFil (mdel n d.fs) }, .ok) by simp [DSt.rename, ho, hr, hmd, h0, hne]]
        have hE : (n == m) = false := by simpa using hne
        have hus : usedOf (mdel n d.fs) + x.b.length = usedOf d.fs := by
          have := usedOf_mdel (n := n) (fs := d.fs)
          rw [hmd] at this
          simpa using this
        have huM : usedOf d.fs ≤ 9223372036854775807 := Nat.le_trans h.ok.used h.ok.room
        have hum := usedOf_mput (n := m) (f := x.toFil) (fs := mdel n d.fs)
        rw [mget_mdel h.ok.nodup, if_neg (Ne.symm hne)] at hum
        go_enter Tryz.func78, Tryz.ntmps78
        go_wp2_with fail
        refine (dfind_some h ho hm).mono ?_
        rintro e w' ⟨rfl, hw⟩
        obtain rfl := hw.symm
        go_wp2_with fail
        refine (is_nil 32 _).mono ?_
        rintro e w' ⟨rfl, hw⟩
        obtain rfl := hw
        go_wp2_with fail
        refine (right_any m _ hm').mono ?_
        rintro e w' ⟨rfl, hw⟩
        obtain rfl := hw.symm
        rw [hr]
        have HUM := Lib.hid (And.intro hus hum)
        clear hus hum
        go_wp2_with fail
        refine (ddoes_ok h h0 hc).mono ?_
        rintro e w3 ⟨rfl, h3, hk3⟩
        have hB3 : Blk w3 db 70 #[.map (some mb), .int .i64 (d.room : Nat), .int .i64 (usedOf d.fs : Nat), .int .i64 ((d.count + 1 : Nat) : Int), .int .i64 d.tick.halt, .bool d.off] := h3.blk
        have hl := run_lookup_kv h3.files.map Tryz.underlying68 Tryz.underlying9 (zeroF w3) m
        rw [ptrs_mget] at hl
        have hbc3 := hB3.cell
        cases hy : mget m fl with
        | none =>
          rw [hy] at hl
          simp only [Option.map_none, Option.getD_none, Option.isSome_none] at hl
          have hyd : mget m d.fs = none := by rw [h.mget, hy]; rfl
          obtain ⟨hus, hum⟩ := HUM.out
          rw [hyd] at hum
          have hB4 : Blk w3 db 70 #[.map (some mb), .int .i64 (d.room : Nat), .int .i64 (usedOf (mput m x.toFil (mdel n d.fs)) : Nat), .int .i64 ((d.count + 1 : Nat) : Int), .int .i64 d.tick.halt, .bool d.off] := by
            rw [show usedOf (mput m x.toFil (mdel n d.fs)) = usedOf d.fs by simp at hum; omega]
            exact hB3
          have hk34 := Keeps.refl [db] w3
          clear hum
          go_upto_region 14 with (fail)
          clear hbc3 hl hE
          have hF4 := (h3.files.keep hk34 (fun y hy => by simp; rintro rfl; exact h3.db_off hy))
          have hM4 := hF4.map
          have hmbdb : db ≠ mb := hM4.ne_blk hB4
          have hbc := hB4.cell
          go_upto_region 15 with (at_delete; refine wpList_delete_kv _ rfl _ _ 68 9 rfl 71 Tryz.underlying68 Tryz.underlying9 mb (ptrs fl) rfl hM4 n rfl ?_; intro w5 hM5 hk5)
          have hF5 := hF4.del hk5 hM5
          have hB5 := hB4.keep hk5 (by simpa using hmbdb)
          clear hbc
          have hbc := hB5.cell
          have hM5' := hF5.map
          go_upto_region 16 with (at_mapUpdate; refine wpList_update_kv _ rfl _ _ _ 68 rfl 9 71 Tryz.underlying68 Tryz.underlying9 mb (ptrs (mdel n fl)) rfl hM5' m rfl _ rfl ?_; intro w6 hM6 hk6)
          have hX6 : FileAt w6 x := ((hF4.file (n, x) (mget_mem hm)).keep hk5 (fun y hy => by simp; rintro rfl; exact hF4.mb_off (mget_mem hm) hy)).keep hk6 (fun y hy => by simp; rintro rfl; exact hF4.mb_off (mget_mem hm) hy)
          have hF6 := hF5.add hk6 hM6 hX6 (fun f hf hne y hy => hF4.off (mget_mem hm) (mem_mdel hf) (Ne.symm (mem_mdel_ne hF4.nodup hf)) y hy)
          have hB6 := hB5.keep hk6 (by simpa using hmbdb)
          have hmbL : mb ∈ L := by rw [h3.feet]; exact .tail _ (mem_feet.2 (.inl rfl))
          have hxo : mget m (mdel n d.tick.fs) = mget m d.fs := by
            rw [mget_mdel h3.ok.nodup, if_neg (Ne.symm hne)]
            rfl
          have hok : ({ d.tick with fs := mput m x.toFil (mdel n d.fs) } : DSt).Ok := by
            refine (h3.ok.del (n := n)).put (n := m) (f := x.toFil) (h3.ok.sure (n, x.toFil) (mget_mem hmd)) (h3.ok.most (n, x.toFil) (mget_mem hmd)) ?_ (fun _ => ⟨?_, right_len hr⟩)
            · have h7 : usedOf d.fs ≤ d.room := h3.ok.used
              show usedOf (mdel n d.fs) + x.b.length ≤ d.room + _
              omega
            · show (mdel n d.fs).length < 64
              have h7 := congrArg List.length (keys_mdel (s := n) d.fs)
              rw [List.length_erase_of_mem (mget_key hmd)] at h7
              simp only [List.length_map] at h7
              have h8 : d.fs.length ≤ 64 := h3.ok.few
              have h9 : 0 < d.fs.length := List.length_pos_of_mem (mget_mem hmd)
              omega
          have FIN := Lib.hid (show DPost w L db ({ d.tick with fs := mput m x.toFil (mdel n d.fs) }, .ok) (.returned .nilIface) w6 from
            ⟨_, _, rfl, rfl, ⟨mb, _, hB6, hF6, by rw [fils_mput, fils_mdel, ← h.fs], rfl, hok⟩, (((hk3.trans hk34).mono (by simpa using hdb)).trans (hk5.mono (by simpa using hmbL))).trans (hk6.mono (by simpa using hmbL)), fun y hy => .inl (by
              rcases List.mem_cons.1 hy with rfl | hy
              · exact hdb
              · rw [h3.feet]
                rcases mem_feet.1 hy with e | ⟨f, hf, hy⟩
                · exact .tail _ (mem_feet.2 (.inl e))
                · rcases mem_mput hf with rfl | hf
                  · exact .tail _ (mem_feet.2 (.inr ⟨(n, x), mget_mem hm, hy⟩))
                  · exact .tail _ (mem_feet.2 (.inr ⟨f, mem_mdel hf, hy⟩)))⟩)
          clear hF4 hF5 hF6 hB4 hB5 hB6 hok hk5 hk34 hk6 hM5 hM4 hM5' hM6 hbc hX6
          go_wp2_with fail
          go_ret
          exact FIN.out
        | some y =>
          rw [hy] at hl
          simp only [Option.map_some, Option.getD_some, Option.isSome_some] at hl
          have hyd : mget m d.fs = some y.toFil := by rw [h.mget, hy]; rfl
          obtain ⟨hus, hum⟩ := HUM.out
          rw [hyd] at hum
          have hY : FileAt w3 y := h3.files.file (m, y) (mget_mem hy)
          have hyc := hY.blk.cell
          have hbf3 := hB3.free
          have hu4 : usedOf (mput m x.toFil (mdel n d.fs)) + y.b.length = usedOf d.fs := by simp at hum; omega
          have q1 : IntKind.i64.wrap ((usedOf d.fs : Int) - (y.b.length : Int)) = (usedOf (mput m x.toFil (mdel n d.fs)) : Nat) := by
            rw [IntWalk.i64_in _ (by omega)]
            omega
          clear hum
          have HU4 := Lib.hid hu4
          clear hu4
          go_upto_region 13 with (fail)
          refine wp_region_still_tail 12 (by kernel_rfl) (by kernel_rfl) ?_
          change wpStill _ _ (World.drew _) _ _ _
          simp only [List.take_succ_cons, List.take_zero, List.drop_succ_cons, List.drop_zero]
          repeat still_step
          refine wpStill_nil ?_
          change wpList _ _ _ _ _ (World.drew _)
          go_upto_region 14 with (fail)
          have hB4 := (hB3.put 2 (.int .i64 (usedOf (mput m x.toFil (mdel n d.fs)) : Nat))).drew
          have hk34 := ((Keeps.refl [db] w3).set (p := ⟨db, 2, none⟩) (.inl (by simp)) (.int .i64 (usedOf (mput m x.toFil (mdel n d.fs)) : Nat))).drew
          generalize World.drew (World.setCell w3 _ _) = w4 at *
          replace hB4 := hB4.eq (cs' := #[.map (some mb), .int .i64 (d.room : Nat), .int .i64 (usedOf (mput m x.toFil (mdel n d.fs)) : Nat), .int .i64 ((d.count + 1 : Nat) : Int), .int .i64 d.tick.halt, .bool d.off]) (by simp)
          clear hbc3 hl hE hY hyc hbf3 q1
          have hF4 := (h3.files.keep hk34 (fun y hy => by simp; rintro rfl; exact h3.db_off hy))
          have hM4 := hF4.map
          have hmbdb : db ≠ mb := hM4.ne_blk hB4
          have hbc := hB4.cell
          go_upto_region 15 with (at_delete; refine wpList_delete_kv _ rfl _ _ 68 9 rfl 71 Tryz.underlying68 Tryz.underlying9 mb (ptrs fl) rfl hM4 n rfl ?_; intro w5 hM5 hk5)
          have hF5 := hF4.del hk5 hM5
          have hB5 := hB4.keep hk5 (by simpa using hmbdb)
          clear hbc
          have hbc := hB5.cell
          have hM5' := hF5.map
          go_upto_region 16 with (at_mapUpdate; refine wpList_update_kv _ rfl _ _ _ 68 rfl 9 71 Tryz.underlying68 Tryz.underlying9 mb (ptrs (mdel n fl)) rfl hM5' m rfl _ rfl ?_; intro w6 hM6 hk6)
          have hX6 : FileAt w6 x := ((hF4.file (n, x) (mget_mem hm)).keep hk5 (fun y hy => by simp; rintro rfl; exact hF4.mb_off (mget_mem hm) hy)).keep hk6 (fun y hy => by simp; rintro rfl; exact hF4.mb_off (mget_mem hm) hy)
          have hF6 := hF5.add hk6 hM6 hX6 (fun f hf hne y hy => hF4.off (mget_mem hm) (mem_mdel hf) (Ne.symm (mem_mdel_ne hF4.nodup hf)) y hy)
          have hB6 := hB5.keep hk6 (by simpa using hmbdb)
          have hmbL : mb ∈ L := by rw [h3.feet]; exact .tail _ (mem_feet.2 (.inl rfl))
          have hxo : mget m (mdel n d.tick.fs) = mget m d.fs := by
            rw [mget_mdel h3.ok.nodup, if_neg (Ne.symm hne)]
            rfl
          have hok : ({ d.tick with fs := mput m x.toFil (mdel n d.fs) } : DSt).Ok := by
            refine (h3.ok.del (n := n)).put (n := m) (f := x.toFil) (h3.ok.sure (n, x.toFil) (mget_mem hmd)) (h3.ok.most (n, x.toFil) (mget_mem hmd)) ?_ (fun _ => ⟨?_, right_len hr⟩)
            · have h7 : usedOf d.fs ≤ d.room := h3.ok.used
              show usedOf (mdel n d.fs) + x.b.length ≤ d.room + _
              omega
            · show (mdel n d.fs).length < 64
              have h7 := congrArg List.length (keys_mdel (s := n) d.fs)
              rw [List.length_erase_of_mem (mget_key hmd)] at h7
              simp only [List.length_map] at h7
              have h8 : d.fs.length ≤ 64 := h3.ok.few
              have h9 : 0 < d.fs.length := List.length_pos_of_mem (mget_mem hmd)
              omega
          have FIN := Lib.hid (show DPost w L db ({ d.tick with fs := mput m x.toFil (mdel n d.fs) }, .ok) (.returned .nilIface) w6 from
            ⟨_, _, rfl, rfl, ⟨mb, _, hB6, hF6, by rw [fils_mput, fils_mdel, ← h.fs], rfl, hok⟩, (((hk3.trans hk34).mono (by simpa using hdb)).trans (hk5.mono (by simpa using hmbL))).trans (hk6.mono (by simpa using hmbL)), fun y hy => .inl (by
              rcases List.mem_cons.1 hy with rfl | hy
              · exact hdb
              · rw [h3.feet]
                rcases mem_feet.1 hy with e | ⟨f, hf, hy⟩
                · exact .tail _ (mem_feet.2 (.inl e))
                · rcases mem_mput hf with rfl | hf
                  · exact .tail _ (mem_feet.2 (.inr ⟨(n, x), mget_mem hm, hy⟩))
                  · exact .tail _ (mem_feet.2 (.inr ⟨f, mem_mdel hf, hy⟩)))⟩)
          clear hF4 hF5 hF6 hB4 hB5 hB6 hok hk5 hk34 hk6 hM5 hM4 hM5' hM6 hbc hX6
          go_wp2_with fail
          go_ret
          exact FIN.out
theorem drename (h : Disk w L db d) (n m : List UInt8) (hm' : m.length ≤ 1000000) (hc : d.count < 4611686018427387904) : Calls Tryz.prog 78 #[.pointer (some ⟨db, 0, none⟩), .string ⟨n.toArray⟩, .string ⟨m.toArray⟩] w (DPost w L db (d.rename n m)) := by
  cases ho : d.off with
  | true => exact drename_off h ho n m
  | false =>
    obtain ⟨mb, fl, h⟩ := h
    cases hm : mget n fl with
    | none => exact drename_none h ho n m hm' hm
    | some x => exact drename_some h ho n m hm' hm hc
end
end Go.Proofs.YtfgmbjdeimallaaGreatDoor
