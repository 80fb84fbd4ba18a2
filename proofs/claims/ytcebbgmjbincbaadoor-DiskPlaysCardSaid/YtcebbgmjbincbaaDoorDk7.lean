/- The disk: Remove, Rename. -/
import Derived.Test.YtcebbgmjbincbaaDoorDk6

namespace Go.Proofs.YtcebbgmjbincbaaDoor
open Go.RowKit Go.Lib


section
variable {w : World} {L : List Nat} {db : Nat} {d : DSt}
set_option maxRecDepth 100000 in
theorem dremove (h : Disk w L db d) (n : List UInt8) (hc : d.count < 4611686018427387904) : Calls Tryd.prog 28 #[.pointer (some ⟨db, 0, none⟩), .string ⟨n.toArray⟩] w (DPost w L db (d.remove n)) := by
  obtain ⟨mb, fl, h⟩ := h
  have hdb := h.mem_db
  cases ho : d.off with
  | true =>
    rw [show d.remove n = (d, .down) by simp [DSt.remove, ho]]
    go_enter Tryd.func28, Tryd.ntmps28
    go_wp2_with fail
    refine (dfind_off h ho n).mono ?_
    rintro e w' ⟨rfl, hw⟩
    obtain rfl := hw.symm
    go_wp2_with fail
    go_ret
    exact h.refs (r := .down) rfl (Keeps.refl [] _)
  | false =>
    cases hm : mget n fl with
    | none =>
      have hmd : mget n d.fs = none := by rw [h.mget, hm]; rfl
      rw [show d.remove n = (d, .bad n 30) by simp [DSt.remove, ho, hmd]]
      go_enter Tryd.func28, Tryd.ntmps28
      go_wp2_with fail
      refine (dfind_none h ho hm).mono ?_
      rintro e w1 ⟨ev, rfl, hE, hk1⟩
      obtain ⟨g, rfl, hg⟩ := hE
      go_wp2_with fail
      go_ret
      exact h.refs (r := .bad n 30) ⟨g, rfl, hg⟩ hk1
    | some x =>
      have hmd : mget n d.fs = some x.toFil := by rw [h.mget, hm]; rfl
      by_cases h0 : d.halt = 0
      · rw [show d.remove n = (d.fall, .down) by simp [DSt.remove, ho, hmd, h0]]
        go_enter Tryd.func28, Tryd.ntmps28
        go_wp2_with fail
        refine (dfind_some h ho hm).mono ?_
        rintro e w' ⟨rfl, hw⟩
        obtain rfl := hw.symm
        go_wp2_with fail
        refine (ddoes_zero h h0).mono ?_
        rintro e w3 ⟨rfl, h3, hk3⟩
        go_wp2_with fail
        go_ret
        exact ⟨_, L, rfl, rfl, ⟨mb, fl, h3⟩, hk3.mono (by simpa using hdb), fun _ hx => .inl hx⟩
      · rw [show d.remove n = ({ d.tick with fs := mdel n d.fs }, .ok) by simp [DSt.remove, ho, hmd, h0]]
        go_enter Tryd.func28, Tryd.ntmps28
        go_wp2_with fail
        refine (dfind_some h ho hm).mono ?_
        rintro e w' ⟨rfl, hw⟩
        obtain rfl := hw.symm
        go_wp2_with fail
        refine (ddoes_ok h h0 hc).mono ?_
        rintro e w3 ⟨rfl, h3, hk3⟩
        go_upto_region 6 with (fail)
        refine wp_region_still_tail 12 (by kernel_rfl) (by kernel_rfl) ?_
        change wpStill _ _ (World.drew _) _ _ _
        have hX : FileAt w3 x := h3.files.file (n, x) (mget_mem hm)
        have hxc := hX.blk.cell
        have hB3 : Blk w3 db 93 #[.map (some mb), .int .i64 (d.room : Nat), .int .i64 (usedOf d.fs : Nat), .int .i64 ((d.count + 1 : Nat) : Int), .int .i64 d.tick.halt, .bool d.off] := h3.blk
        have hbc := hB3.cell
        have hbf := hB3.free
        have hus : usedOf (mdel n d.fs) + x.b.length = usedOf d.fs := by
          have := usedOf_mdel (n := n) (fs := d.fs)
          rw [hmd] at this
          simpa using this
        have huM : usedOf d.fs ≤ 9223372036854775807 := Nat.le_trans h3.ok.used h3.ok.room
        have q1 : IntKind.i64.wrap ((usedOf d.fs : Int) - (x.b.length : Int)) = (usedOf (mdel n d.fs) : Nat) := by
          rw [IntWalk.i64_in _ (by omega)]
          omega
        simp only [List.take_succ_cons, List.take_zero, List.drop_succ_cons, List.drop_zero]
        repeat still_step
        refine wpStill_nil ?_
        change wpList _ _ _ _ _ (World.drew _)
        go_upto_region 7 with (fail)
        have hB4 := (hB3.put 2 (.int .i64 (usedOf (mdel n d.fs) : Nat))).drew
        have hk4 := ((Keeps.refl [db] w3).set (p := ⟨db, 2, none⟩) (.inl (by simp)) (.int .i64 (usedOf (mdel n d.fs) : Nat))).drew
        generalize World.drew (World.setCell w3 _ _) = w4 at *
        replace hB4 := hB4.eq (cs' := #[.map (some mb), .int .i64 (d.room : Nat), .int .i64 (usedOf (mdel n d.fs) : Nat), .int .i64 ((d.count + 1 : Nat) : Int), .int .i64 d.tick.halt, .bool d.off]) (by simp)
        have hF4 := h3.files.keep hk4 (fun y hy => by simp; rintro rfl; exact h3.db_off hy)
        have hM4 := hF4.map
        have hmbdb : db ≠ mb := hM4.ne_blk hB4
        clear hX hxc hbc hbf q1 hB3
        have hbc := hB4.cell
        go_upto_region 8 with (at_delete; refine wpList_delete_kv _ rfl _ _ 91 9 rfl 94 Tryd.underlying91 Tryd.underlying9 mb (ptrs fl) rfl hM4 n rfl ?_; intro w5 hM5 hk5)
        have hF5 := hF4.del hk5 hM5
        have hB5 := hB4.keep hk5 (by simpa using hmbdb)
        have hmbL : mb ∈ L := by rw [h3.feet]; exact .tail _ (mem_feet.2 (.inl rfl))
        have hok : ({ d.tick with fs := mdel n d.fs } : DSt).Ok := h3.ok.del (n := n)
        have FIN := Lib.hid (show DPost w L db ({ d.tick with fs := mdel n d.fs }, .ok) (.returned .nilIface) w5 from
          ⟨_, _, rfl, rfl, ⟨mb, _, hB5, hF5, by rw [fils_mdel, ← h.fs], rfl, hok⟩, ((hk3.trans hk4).mono (by simpa using hdb)).trans (hk5.mono (by simpa using hmbL)), fun y hy => .inl (by
            rcases List.mem_cons.1 hy with rfl | hy
            · exact hdb
            · rw [h3.feet]
              rcases mem_feet.1 hy with e | ⟨f, hf, hy⟩
              · exact .tail _ (mem_feet.2 (.inl e))
              · exact .tail _ (mem_feet.2 (.inr ⟨f, mem_mdel hf, hy⟩)))⟩)
        clear hF4 hF5 hB4 hB5 hok hk5 hk4 hM5 hM4 hbc
        go_wp2_with fail
        go_ret
        exact FIN.out

set_option maxRecDepth 100000 in
theorem drename_off (h : Disk w L db d) (ho : d.off = true) (n m : List UInt8) : Calls Tryd.prog 26 #[.pointer (some ⟨db, 0, none⟩), .string ⟨n.toArray⟩, .string ⟨m.toArray⟩] w (DPost w L db (d.rename n m)) := by
  obtain ⟨mb, fl, h⟩ := h
  rw [show d.rename n m = (d, .down) by simp [DSt.rename, ho]]
  go_enter Tryd.func26, Tryd.ntmps26
  go_wp2_with fail
  refine (dfind_off h ho n).mono ?_
  rintro e w' ⟨rfl, hw⟩
  obtain rfl := hw.symm
  go_wp2_with fail
  refine (is_class 32 32 _).mono ?_
  rintro e w' ⟨rfl, hw⟩
  obtain rfl := hw.symm
  simp only [decide_true]
  go_wp2_with fail
  go_ret
  exact h.refs (r := .down) rfl (Keeps.refl [] _)

set_option maxRecDepth 100000 in
theorem drename_none {mb : Nat} {fl : List (List UInt8 × FlM)} (h : DiskAt w L db d mb fl) (ho : d.off = false) (n m : List UInt8) (hm' : m.length ≤ 1000000) (hm : mget n fl = none) : Calls Tryd.prog 26 #[.pointer (some ⟨db, 0, none⟩), .string ⟨n.toArray⟩, .string ⟨m.toArray⟩] w (DPost w L db (d.rename n m)) := by
  have hmd : mget n d.fs = none := by rw [h.mget, hm]; rfl
  cases hr : right m with
  | false =>
    rw [show d.rename n m = (d, .bad m 20) by simp [DSt.rename, ho, hr]]
    go_enter Tryd.func26, Tryd.ntmps26
    go_wp2_with fail
    refine (dfind_none h ho hm).mono ?_
    rintro e w1 ⟨ev, rfl, hE, hk1⟩
    go_wp2_with fail
    refine (is_de hE 32 (by decide)).mono ?_
    rintro e w' ⟨rfl, hw⟩
    obtain rfl := hw.symm
    rw [show decide ((DRes.bad n 30).cls = 32) = false from rfl]
    have HE := Lib.hid hE
    clear hE
    go_wp2_with fail
    refine (right_any m w1 hm').mono ?_
    rintro e w' ⟨rfl, hw⟩
    obtain rfl := hw.symm
    rw [hr]
    go_wp2_with fail
    refine (fault_any m 20 w1).mono ?_
    rintro e w2 ⟨ev2, rfl, hE2, hk2⟩
    go_wp2_with fail
    go_ret
    exact h.refs hE2 (hk1.trans hk2)
  | true =>
    rw [show d.rename n m = (d, .bad n 30) by simp [DSt.rename, ho, hr, hmd]]
    go_enter Tryd.func26, Tryd.ntmps26
    go_wp2_with fail
    refine (dfind_none h ho hm).mono ?_
    rintro e w1 ⟨ev, rfl, hE, hk1⟩
    obtain ⟨g, rfl, hg⟩ := hE
    go_wp2_with fail
    refine (is_withinD g 30 32 w1 (hg.cell 1)).mono ?_
    rintro e w' ⟨rfl, hw⟩
    obtain rfl := hw.symm
    rw [show decide ((30 : Int) = 32) = false from rfl]
    have HG := Lib.hid hg
    clear hg
    go_wp2_with fail
    refine (right_any m w1 hm').mono ?_
    rintro e w' ⟨rfl, hw⟩
    obtain rfl := hw.symm
    rw [hr]
    go_wp2_with fail
    go_ret
    exact h.refs (r := .bad n 30) ⟨g, rfl, HG.out⟩ hk1
end
end Go.Proofs.YtcebbgmjbincbaaDoor
