/- The disk: Truncate. -/
import Derived.Test.YtfgmbjdeimallaaGreatDoorDkY

namespace Go.Proofs.YtfgmbjdeimallaaGreatDoor
open Go.RowKit Go.Lib


section
variable {w : World} {L : List Nat} {db : Nat} {d : DSt}
set_option maxRecDepth 100000 in
set_option maxHeartbeats 4000000 in
theorem dtrunc (h : Disk w L db d) (n : List UInt8) (k : Int) (hc : d.count < 4611686018427387904) : Calls Tryz.prog 36 #[.pointer (some ⟨db, 0, none⟩), .string ⟨n.toArray⟩, .int .i64 k] w (DPost w L db (d.trunc n k)) := by
  obtain ⟨mb, fl, h⟩ := h
  have hdb := h.mem_db
  cases ho : d.off with
  | true =>
    rw [show d.trunc n k = (d, .down) by simp [DSt.trunc, ho]]
    go_enter Tryz.func36, Tryz.ntmps36
    go_wp2_with fail
    refine (dfind_off h ho n).mono ?_
    rintro e w' ⟨rfl, hw⟩
    obtain rfl := hw.symm
    go_wp2_with fail
    go_ret
    exact h.refs (r := .down) rfl (Keeps.refl [] _)
  | false =>
    cases hm : mget n fl with
    | none =>
      have hmd : mget n d.fs = none := by rw [h.mget, hm]; rfl
      rw [show d.trunc n k = (d, .bad n 30) by simp [DSt.trunc, ho, hmd]]
      go_enter Tryz.func36, Tryz.ntmps36
      go_wp2_with fail
      refine (dfind_none h ho hm).mono ?_
      rintro e w1 ⟨ev, rfl, hE, hk1⟩
      obtain ⟨g, rfl, hg⟩ := hE
      go_wp2_with fail
      go_ret
      exact h.refs (r := .bad n 30) ⟨g, rfl, hg⟩ hk1
    | some x =>
      have hmd : mget n d.fs = some x.toFil := by rw [h.mget, hm]; rfl
      have hX : FileAt w x := h.files.file (n, x) (mget_mem hm)
      have hxc := hX.blk.cell
      by_cases hbad : k < 0 ∨ (x.b.length : Int) < k
      · rw [show d.trunc n k = (d, .bad n 40) by simp [DSt.trunc, ho, hmd, hbad]]
        rcases hbad with hbad | hbad
        · go_enter Tryz.func36, Tryz.ntmps36
          go_wp2_with fail
          refine (dfind_some h ho hm).mono ?_
          rintro e w' ⟨rfl, hw⟩
          obtain rfl := hw.symm
          go_wp2_with fail
          refine (fault_any n 40 _).mono ?_
          rintro e w2 ⟨ev2, rfl, hE2, hk2⟩
          clear hxc
          go_wp2_with fail
          go_ret
          exact h.refs hE2 hk2
        · have hn : ¬ (k < 0) := by omega
          go_enter Tryz.func36, Tryz.ntmps36
          go_wp2_with fail
          refine (dfind_some h ho hm).mono ?_
          rintro e w' ⟨rfl, hw⟩
          obtain rfl := hw.symm
          go_wp2_with fail
          refine (fault_any n 40 _).mono ?_
          rintro e w2 ⟨ev2, rfl, hE2, hk2⟩
          clear hxc
          go_wp2_with fail
          go_ret
          exact h.refs hE2 hk2
      · obtain ⟨q, rfl⟩ := Int.eq_ofNat_of_zero_le (show 0 ≤ k by omega)
        have m1 : ¬ ((q : Int) < 0) := by omega
        have m2 : ¬ ((x.b.length : Int) < (q : Int)) := by omega
        have hql : q ≤ x.b.length := by omega
        by_cases h0 : d.halt = 0
        · rw [show d.trunc n (q : Int) = (d.fall, .down) by simp only [DSt.trunc, ho, hmd]; rw [if_neg (by simp), if_neg hbad, if_pos h0]]
          clear hbad
          go_enter Tryz.func36, Tryz.ntmps36
          go_wp2_with fail
          refine (dfind_some h ho hm).mono ?_
          rintro e w' ⟨rfl, hw⟩
          obtain rfl := hw.symm
          go_wp2_with fail
          refine (ddoes_zero h h0).mono ?_
          rintro e w3 ⟨rfl, h3, hk3⟩
          clear hxc
          go_wp2_with fail
          go_ret
          exact ⟨_, L, rfl, rfl, ⟨mb, fl, h3⟩, hk3.mono (by simpa using hdb), fun _ hx => .inl hx⟩
        · rw [show d.trunc n (q : Int) = ({ d.tick with fs := mput n ⟨x.b.take q, min x.sure q⟩ d.fs }, .ok) by simp only [DSt.trunc, ho, hmd]; rw [if_neg (by simp), if_neg hbad, if_neg h0]; rfl]
          clear hbad
          have hus : usedOf (mput n ⟨x.b.take q, min x.sure q⟩ d.fs) + x.b.length = usedOf d.fs + q := by
            have := usedOf_mput (n := n) (f := ⟨x.b.take q, min x.sure q⟩) (fs := d.fs)
            rw [hmd] at this
            simpa [hql] using this
          have hux := usedOf_le hmd
          have huM : usedOf d.fs ≤ 9223372036854775807 := Nat.le_trans h.ok.used h.ok.room
          have HUS := Lib.hid hus
          go_enter Tryz.func36, Tryz.ntmps36
          go_wp2_with fail
          refine (dfind_some h ho hm).mono ?_
          rintro e w' ⟨rfl, hw⟩
          obtain rfl := hw.symm
          have hxmo := hX.most
          go_wp2_with fail
          refine (ddoes_ok h h0 hc).mono ?_
          rintro e w3 ⟨rfl, h3, hk3⟩
          clear hxc hX
          go_upto_region 9 with (fail)
          have hX : FileAt w3 x := h3.files.file (n, x) (mget_mem hm)
          have hxc := hX.blk.cell
          have hB3 : Blk w3 db 70 #[.map (some mb), .int .i64 (d.room : Nat), .int .i64 (usedOf d.fs : Nat), .int .i64 ((d.count + 1 : Nat) : Int), .int .i64 d.tick.halt, .bool d.off] := h3.blk
          have hbc := hB3.cell
          have hbf := hB3.free
          have q1 : IntKind.i64.wrap ((x.b.length : Int) - (q : Int)) = (x.b.length : Int) - (q : Int) := IntWalk.i64_in _ (by omega)
          have q2 : IntKind.i64.wrap ((usedOf d.fs : Int) - ((x.b.length : Int) - (q : Int))) = (usedOf (mput n ⟨x.b.take q, min x.sure q⟩ d.fs) : Nat) := by
            have hux' : x.b.length ≤ usedOf d.fs := hux
            rw [IntWalk.i64_in _ (by omega)]
            omega
          clear hus
          refine wp_region_still_tail 14 (by kernel_rfl) (by kernel_rfl) ?_
          change wpStill _ _ (World.drew _) _ _ _
          simp only [List.take_succ_cons, List.take_zero, List.drop_succ_cons, List.drop_zero]
          repeat still_step
          refine wpStill_nil ?_
          change wpList _ _ _ _ _ (World.drew _)
          go_upto_region 10 with (fail)
          have hB4 := (hB3.put 2 (.int .i64 (usedOf (mput n ⟨x.b.take q, min x.sure q⟩ d.fs) : Nat))).drew
          have hk34 := ((Keeps.refl [db] w3).set (p := ⟨db, 2, none⟩) (.inl (by simp)) (.int .i64 (usedOf (mput n ⟨x.b.take q, min x.sure q⟩ d.fs) : Nat))).drew
          generalize World.drew (World.setCell w3 _ _) = w4 at *
          replace hB4 := hB4.eq (cs' := #[.map (some mb), .int .i64 (d.room : Nat), .int .i64 (usedOf (mput n ⟨x.b.take q, min x.sure q⟩ d.fs) : Nat), .int .i64 ((d.count + 1 : Nat) : Int), .int .i64 d.tick.halt, .bool d.off]) (by simp)
          have hF4 := h3.files.keep hk34 (fun y hy => by simp; rintro rfl; exact h3.db_off hy)
          clear hX hxc hbc hbf q1 q2 hB3
          have hX : FileAt w4 x := hF4.file (n, x) (mget_mem hm)
          have hxc := hX.blk.cell
          have hxf := hX.blk.free
          have hcap := hX.own.caps
          have n1 : (0 : Int) ≤ (q : Int) := by omega
          have hcap' : q ≤ x.c := by omega
          have n2 : (q : Int) ≤ (x.c : Int) := by omega
          go_upto_region 11 with (fail)
          have hB5 := hX.blk.put 0 (.slice x.ao q q)
          have hk45 := (Keeps.refl [x.fb] w4).set (p := ⟨x.fb, 0, none⟩) (.inl (by simp)) (.slice x.ao q q)
          generalize World.setCell w4 _ _ = w5 at *
          clear hxc hxf
          have hxc := hB5.cell
          have hxf := hB5.free
          have hO5 := (hX.own.cut hql (Nat.le_refl q) hcap').keep hk45 (fun y hy => by simp; rintro rfl; exact hX.ne_buf hX hy)
          have hxm : x.fb ∈ L := by rw [h3.feet]; exact .tail _ (mem_feet.2 (.inr ⟨(n, x), mget_mem hm, .head _⟩))
          have hok : ({ d.tick with fs := mput n ⟨x.b.take q, min x.sure q⟩ d.fs } : DSt).Ok := by
            have h7 : usedOf d.fs ≤ d.room := h3.ok.used
            refine h3.ok.put (n := n) (f := ⟨x.b.take q, min x.sure q⟩) (by simp; omega) (by simp; omega) ?_ (fun e => by rw [show mget n d.tick.fs = mget n d.fs from rfl, hmd] at e; cases e)
            rw [show d.tick.got n = x.toFil from DSt.got_some (d := d.tick) hmd]
            show usedOf d.fs + (x.b.take q).length ≤ d.room + x.b.length
            simp
            omega
          have fin : ∀ z : Nat, z = min x.sure q → DPost w L db ({ d.tick with fs := mput n ⟨x.b.take q, min x.sure q⟩ d.fs }, .ok) (.returned .nilIface) (w5.setCell ⟨x.fb, 1, none⟩ (.int .i64 (z : Nat))) := by
            intro z hz
            have hk56 := (Keeps.refl [x.fb] w5).set (p := ⟨x.fb, 1, none⟩) (.inl (by simp)) (.int .i64 (z : Nat))
            have hF6 := hF4.turn_b (x' := ⟨⟨x.b.take q, min x.sure q⟩, x.fb, x.ao, q⟩) hm rfl rfl (hk45.trans hk56) ((hB5.put 1 (.int .i64 (z : Nat))).eq (by simp [hz, hql])) (hO5.keep hk56 (fun y hy => by simp; rintro rfl; exact hX.ne_buf hX hy)) (by simp; omega) (by simp; omega)
            have hdf : db ≠ x.fb := fun e => h3.db_off (mem_feet.2 (.inr ⟨(n, x), mget_mem hm, by rw [e]; exact .head _⟩))
            exact ⟨_, _, rfl, rfl, ⟨mb, _, hB4.keep (hk45.trans hk56) (by simpa using hdf), hF6, by rw [fils_mput, ← h.fs], rfl, hok⟩, ((hk3.trans hk34).mono (by simpa using hdb)).trans ((hk45.trans hk56).mono (by simpa using hxm)), fun y hy => .inl (by
              rcases List.mem_cons.1 hy with rfl | hy
              · exact hdb
              · rw [h3.feet]; exact .tail _ (feet_sub (x' := ⟨⟨x.b.take q, min x.sure q⟩, x.fb, x.ao, q⟩) hm rfl (fun y hy => hy) y hy))⟩
          have FIN := Lib.hid fin
          clear fin hok hO5 hB5 hX hF4 hB4 hk45 hk34 hk3 h3
          by_cases hsq : q < x.sure
          · have m3 : (q : Int) < (x.sure : Int) := by omega
            go_wp2_with fail
            go_ret
            exact FIN.out q (by omega)
          · have m3 : ¬ ((q : Int) < (x.sure : Int)) := by omega
            go_wp2_with fail
            go_ret
            exact FIN.out x.sure (by omega)
end
end Go.Proofs.YtfgmbjdeimallaaGreatDoor
