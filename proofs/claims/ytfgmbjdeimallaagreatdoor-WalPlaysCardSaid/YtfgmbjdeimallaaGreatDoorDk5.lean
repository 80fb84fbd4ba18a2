/- The disk: Append. -/
import Derived.Test.YtfgmbjdeimallaaGreatDoorDkX

namespace Go.Proofs.YtfgmbjdeimallaaGreatDoor
open Go.RowKit Go.Lib

theorem mput_mput {α : Type} {s : List UInt8} {u v : α} : ∀ {fs : List (List UInt8 × α)}, mput s v (mput s u fs) = mput s v fs
  | [] => by simp [mput]
  | f :: r => by
    by_cases e : f.1 = s
    · simp [mput, e]
    · simp [mput, e, mput_mput (fs := r)]

section
variable {w : World} {L : List Nat} {db mb : Nat} {d : DSt} {fl : List (List UInt8 × FlM)}
theorem dappend_off (h : DiskAt w L db d mb fl) (ho : d.off = true) (n b : List UInt8) (bo : Option Addr) (bc : Nat) :
    Calls Tryz.prog 8 #[.pointer (some ⟨db, 0, none⟩), .string ⟨n.toArray⟩, .slice bo b.length bc] w (DPost w L db (d.append n b)) := by
  have hr : d.append n b = (d, .down) := by simp [DSt.append, ho]
  rw [hr]
  have fin := h.refs (ev := .iface 75 (.int .i64 32)) (r := .down) rfl (Keeps.refl [] w)
  have FIN := Lib.hid fin
  clear fin
  go_enter Tryz.func8, Tryz.ntmps8
  go_wp2_with fail
  refine (dfind_off h ho n).mono ?_
  rintro e w' ⟨rfl, hw⟩
  obtain rfl := hw.symm
  go_wp2_with fail
  refine (is_class 32 32 _).mono ?_
  rintro e w' ⟨rfl, hw⟩
  obtain rfl := hw.symm
  simp only [decide_true]
  go_wp2_with fail
  go_ret
  exact FIN.out

set_option maxRecDepth 100000 in
set_option maxHeartbeats 4000000 in
theorem dappend_none (h : DiskAt w L db d mb fl) (ho : d.off = false) (n b : List UInt8) (hn : n.length ≤ 1000000) (hm : mget n fl = none) {bo : Option Addr} {bc : Nat} (hb : Rb w bo bc b) (hbl : b.length ≤ 1099511627776) (hoff : ∀ ad, bo = some ad → bys b ≠ [] → ad.block ∉ L) (hc : d.count < 4611686018427387904) :
    Calls Tryz.prog 8 #[.pointer (some ⟨db, 0, none⟩), .string ⟨n.toArray⟩, .slice bo b.length bc] w (DPost w L db (d.append n b)) := by
  obtain ⟨iB, zB, hiB, hzB, hsB, hbB, hcB⟩ := infoB
  have hmd : mget n d.fs = none := by rw [h.mget, hm]; rfl
  have hdb := h.mem_db
  go_enter Tryz.func8, Tryz.ntmps8
  go_wp2_with fail
  refine (dfind_none h ho hm).mono ?_
  rintro e w1 ⟨ev, rfl, hE, hk1⟩
  go_wp2_with fail
  refine (is_de hE 32 (by decide)).mono ?_
  rintro e w' ⟨rfl, hw⟩
  obtain rfl := hw.symm
  rw [show decide ((DRes.bad n 30).cls = 32) = false from rfl]
  replace h := h.keep hk1 (by simp)
  replace hb := hb.keep0 hk1
  have HE := Lib.hid hE
  clear hE
  go_wp2_with fail
  refine (right_any n w1 hn).mono ?_
  rintro e w' ⟨rfl, hw⟩
  obtain rfl := hw.symm
  cases hr : right n with
  | false =>
    have HR := Lib.hid hr
    clear hr
    go_wp2_with fail
    refine (fault_any n 20 w1).mono ?_
    rintro e w2 ⟨ev2, rfl, hE2, hk2⟩
    go_wp2_with fail
    go_ret
    rw [show d.append n b = (d, .bad n 20) by simp [DSt.append, ho, HR.out]]
    obtain ⟨ev', L', h1, h2, h3, h4, h5⟩ := h.refs hE2 hk2
    exact ⟨ev', L', h1, h2, h3, hk1.of_nil.trans h4, fun x hx => (h5 x hx).imp id (fun h => Nat.le_trans hk1.size h)⟩
  | true =>
    have HR := Lib.hid hr
    clear hr
    have hu := h.ok.used
    have hrm := h.ok.room
    have hcl := h.blk.cell
    have q1 : IntKind.i64.wrap ((d.room : Int) - (usedOf d.fs : Int)) = (d.room : Int) - (usedOf d.fs : Int) := IntWalk.i64_in _ (by omega)
    go_upto_region 6 with (fail)
    obtain ⟨t1, ht1⟩ : ∃ t1 : Bool, t1 = decide ((d.room : Int) - (usedOf d.fs : Int) < (b.length : Int)) := ⟨_, rfl⟩
    have HT := Lib.hid ht1
    go_quiet (fail)
    have hkd := (Keeps.refl [] w1).drewN nq
    rw [← ht1]
    clear ht1 hcl q1
    replace h := h.keep hkd (by simp)
    replace hb := hb.keep0 hkd
    have hk2 := hk1.trans hkd
    clear hkd hk1
    generalize w1.drewN nq = w2 at *
    have hcl := h.blk.cell
    have hlen := run_len_kv h.files.map Tryz.underlying68 3
    rw [ptrs_length] at hlen
    have hfl : d.fs.length = fl.length := by rw [h.fs, fils_length]
    have hgot := DSt.got_none hmd
    by_cases hfull : d.room < usedOf d.fs + b.length ∨ 64 ≤ fl.length ∨ 1048576 < b.length
    · have HF := Lib.hid hfull
      have res : d.append n b = (d, .bad n 31) := by
        simp only [DSt.append, ho, HR.out, hgot, hmd, hfl]
        simp
        omega
      have fin : ∀ w3 ev3, DE w3 ev3 (.bad n 31) → Keeps [] w2 w3 → DPost w L db (d.append n b) (.returned ev3) w3 := fun w3 ev3 h3 hk3 => by
        rw [res]
        obtain ⟨ev', L', h1, h2, h4, h5, h6⟩ := h.refs h3 hk3
        exact ⟨ev', L', h1, h2, h4, hk2.of_nil.trans h5, fun x hx => (h6 x hx).imp id (fun h => Nat.le_trans hk2.size h)⟩
      have FIN := Lib.hid fin
      clear fin res
      by_cases c1 : d.room < usedOf d.fs + b.length
      · obtain rfl : t1 = true := by rw [HT.out]; simp; omega
        clear hfull
        go_wp2_with fail
        refine (fault_any n 31 w2).mono ?_
        rintro e w3 ⟨ev3, rfl, hE3, hk3⟩
        go_wp2_with fail
        go_ret
        exact FIN.out _ _ hE3 hk3
      · obtain rfl : t1 = false := by rw [HT.out]; simp; omega
        by_cases c2 : 64 ≤ fl.length
        · have m2 : (64 : Int) ≤ (fl.length : Int) := by omega
          clear hfull
          go_wp2_with fail
          refine (fault_any n 31 w2).mono ?_
          rintro e w3 ⟨ev3, rfl, hE3, hk3⟩
          go_wp2_with fail
          go_ret
          exact FIN.out _ _ hE3 hk3
        · have m2 : ¬ ((64 : Int) ≤ (fl.length : Int)) := by omega
          have m3 : (1048576 : Int) < (b.length : Int) := by omega
          clear hfull
          go_wp2_with fail
          refine (fault_any n 31 w2).mono ?_
          rintro e w3 ⟨ev3, rfl, hE3, hk3⟩
          go_wp2_with fail
          go_ret
          exact FIN.out _ _ hE3 hk3
    · obtain rfl : t1 = false := by rw [HT.out]; simp; omega
      have m2 : ¬ ((64 : Int) ≤ (fl.length : Int)) := by omega
      have m3 : ¬ ((1048576 : Int) < (b.length : Int)) := by omega
      have HF := Lib.hid hfull
      clear hfull
      go_wp2_with fail
      by_cases h0 : d.halt = 0
      · refine (ddoes_zero h h0).mono ?_
        rintro e w3 ⟨rfl, h3, hk3⟩
        go_wp2_with fail
        go_ret
        have hres : d.append n b = (d.fall, .down) := by
          simp only [DSt.append, ho, HR.out, hgot]
          rw [if_neg (by simp), if_neg (by simp), if_neg (by rw [hfl]; simpa using by have := HF.out; omega), if_pos h0]
        rw [hres]
        exact ⟨_, L, rfl, rfl, ⟨mb, fl, h3⟩, hk2.of_nil.trans (hk3.mono (by simpa using hdb)), fun _ hx => .inl hx⟩
      · refine (ddoes_ok h h0 hc).mono ?_
        rintro e w3 ⟨rfl, h3, hk3⟩
        have hb3 := hb.keep hk3 (fun ad e1 e2 => by
          simp only [List.mem_singleton]
          intro e3
          exact hoff ad e1 e2 (by rw [e3]; exact hdb))
        have hcl3 := h3.blk.cell
        have hll3 := h3.blk.lt
        have hbo : ∀ ad, bo = some ad → bys b ≠ [] → ad.block ∉ [mb] := fun ad e1 e2 => by
          simp only [List.mem_singleton]
          intro e3
          exact hoff ad e1 e2 (by rw [e3, h3.feet]; exact .tail _ (mem_feet.2 (.inl rfl)))
        have hkA := (Keeps.refl [] w3).alloc (.cells #[.slice none 0 0, .int .i64 0] 79)
        have hXA := Blk.fresh w3 79 #[.slice none 0 0, .int .i64 0]
        have hMA := h3.files.map.keep0 hkA
        go_upto_region 17 with (at_mapUpdate; refine wpList_update_kv _ rfl _ _ _ 68 rfl 9 71 Tryz.underlying68 Tryz.underlying9 mb (ptrs fl) rfl hMA n rfl _ rfl ?_; intro w5 hM5 hk5)
        have hsA : (w3.alloc (.cells #[.slice none 0 0, .int .i64 0] 79)).heap.size = w3.heap.size + 1 := by simp
        have hmbl := h3.files.map.lt
        have hX5 := hXA.keep hk5 (by simp; omega)
        obtain ⟨x, hx⟩ : ∃ x : FlM, x = ⟨⟨[], 0⟩, w3.heap.size, none, 0⟩ := ⟨_, rfl⟩
        have hF5 : FilesAt w5 mb (mput n x fl) := by
          subst hx
          refine (h3.files.keep (L := []) hkA (by simp)).add hk5 hM5 ⟨hX5, OwnG.nil _, Nat.le_refl _, by simp⟩ (fun f hf hne y hy hy2 => ?_)
          have := (h3.files.file f hf).lt y hy2
          simp [FlM.feet] at hy
          omega
        have hx5 : mget n (mput n x fl) = some x := by rw [mget_mput, if_pos rfl]
        have hd5 : db ∉ feet mb (mput n x fl) := fun hy => by
          rcases mem_feet.1 hy with e | ⟨f, hf, hy⟩
          · exact h3.db_off (mem_feet.2 (.inl e))
          · rcases mem_mput hf with rfl | hf
            · subst hx
              simp [FlM.feet] at hy
              have := h3.blk.lt
              omega
            · exact h3.db_off (mem_feet.2 (.inr ⟨f, hf, hy⟩))
        have hB5 := (h3.blk.keep hkA (by simp)).keep hk5 (by simp; rintro rfl; exact h3.db_off (mem_feet.2 (.inl rfl)))
        replace hB5 : Blk w5 db 70 #[.map (some mb), .int .i64 (d.room : Nat), .int .i64 (usedOf d.fs : Nat), .int .i64 ((d.count + 1 : Nat) : Int), .int .i64 d.tick.halt, .bool d.off] := hB5
        have hb5 := (hb3.keep0 hkA).keep hk5 hbo
        have hs23 := (hk2.of_nil (L := [db])).trans hk3 |>.size
        have hm5 : ∀ y ∈ feet mb (mput n x fl), y ∈ L ∨ w.heap.size ≤ y := fun y hy => by
          rcases mem_feet.1 hy with rfl | ⟨f, hf, hy⟩
          · exact .inl (by rw [h3.feet]; exact .tail _ (mem_feet.2 (.inl rfl)))
          · rcases mem_mput hf with rfl | hf
            · subst hx
              simp [FlM.feet] at hy
              exact .inr (by omega)
            · exact .inl (by rw [h3.feet]; exact .tail _ (mem_feet.2 (.inr ⟨f, hf, hy⟩)))
        have hk05 : Keeps L w w5 := (((hk2.of_nil (L := L)).trans (hk3.mono (by simpa using hdb))).trans (hkA.of_nil)).trans (hk5.mono (fun y hy => by simp at hy; subst hy; rw [h3.feet]; exact .tail _ (mem_feet.2 (.inl rfl))))
        have HG := Lib.hid (show x.toFil = d.got n by rw [hgot, hx])
        have HOK := Lib.hid h.ok
        have HXS := Lib.hid (show x.sure ≤ x.b.length by rw [hx]; exact Nat.le_refl _)
        have HNEW := Lib.hid (fun _ => ⟨by have := HF.out; show d.fs.length < 64; omega, right_len HR.out⟩ : mget n d.tick.fs = none → d.tick.fs.length < 64 ∧ n.length ≤ 40)
        have HNF := Lib.hid (show ¬ (d.room < usedOf d.fs + b.length ∨ (mget n d.fs = none ∧ 64 ≤ d.fs.length) ∨ 1048576 < x.b.length + b.length) by
          have := HF.out
          rw [hx, hfl]
          simp
          omega)
        have HFS := Lib.hid (show mput n ⟨x.b ++ b, x.sure⟩ d.fs = mput n (⟨x.b ++ b, x.sure⟩ : Fil) (fils (mput n x fl)) by
          rw [fils_mput, mput_mput, ← h.fs])
        have hbx : x.b.length + b.length ≤ 1048576 := by have := HNF.out; omega
        have hux : usedOf d.fs + b.length ≤ d.room := by have := HNF.out; omega
        have hxf0 : x.fb = w3.heap.size := by rw [hx]
        generalize hfl5 : mput n x fl = fl5 at *
        rw [← hxf0]
        clear hx hsA hX5 hXA hMA hM5 hk5 hkA hcl3 hll3 hb3 h3 hk3 hbo hfl5 hlen hgot hm m2 m3 hk2 hmbl hs23 hxf0 hcl
        have hX : FileAt w5 x := hF5.file (n, x) (mget_mem hx5)
        have hxc := hX.blk.cell
        have hxf := hX.blk.free
        have hxm := hX.most
        have hfo := hX.ne_buf hX
        go_upto_region 18 with (at_builtin; refine wpList_append_bg _ rfl _ _ 26 26 rfl iB zB Tryz.underlying26 hiB hzB hsB hbB hcB x.ao x.c x.b rfl hX.own _ rfl b (hb5.src Tryz.underlying26) (by unfold maxLen; omega) (by omega) ?_; intro a6 c6 w6 hO6 hk6 hb6; have hX6 := hX.blk.keep hk6 hfo; have hxc6 := hX6.cell; have hxf6 := hX6.free)
        have hX7 := hX6.put 0 (.slice a6 (x.b.length + b.length) c6)
        have hk67 := (Keeps.refl [x.fb] w6).set (p := ⟨x.fb, 0, none⟩) (.inl (by simp)) (.slice a6 (x.b.length + b.length) c6)
        generalize World.setCell w6 _ _ = w7 at *
        have hO6' := hO6
        have hfa6 := hb6
        have hfl5 := hX.blk.lt
        have hO7 : OwnG w7 a6 c6 (x.b ++ b) := hO6'.keep hk67 (fun y hy => by
          simp only [List.mem_singleton]
          rintro rfl
          rcases hfa6 _ hy with h1 | h1
          · exact hfo h1
          · omega)
        have hk57 : Keeps x.feet w5 w7 := (hk6.mono (L' := x.feet) (fun y hy => .tail _ hy)).trans (hk67.mono (fun y hy => by simp at hy; subst hy; exact .head _))
        have hF7 := hF5.turn (x' := ⟨⟨x.b ++ b, x.sure⟩, x.fb, a6, c6⟩) hx5 rfl hk57 ⟨hX7.eq (by simp), hO7, by have := hX.sure; simp; omega, by simp; omega⟩ hfa6
        have hB7 := hB5.keep hk57 (fun hy => hd5 (mem_feet.2 (.inr ⟨(n, x), mget_mem hx5, hy⟩)))
        have hk7 : Keeps L w w7 := hk05.step hk57 (fun y hy => hm5 y (mem_feet.2 (.inr ⟨(n, x), mget_mem hx5, hy⟩)))
        have hbc := hB7.cell
        have hbf := hB7.free
        have q2 : IntKind.i64.wrap ((usedOf d.fs : Int) + (b.length : Int)) = ((usedOf d.fs + b.length : Nat) : Int) := by
          rw [IntWalk.i64_in _ (by omega)]
          omega
        have HP := Lib.hid (And.intro hF7 (And.intro hB7 (And.intro hk7 (And.intro hfa6 hk05))))
        clear hX hxc hxf hX6 hxc6 hxf6 hX7 hk67 hO6' hfa6 hO7 hk57 hF7 hk7 hO6 hk6 hb6 hF5 hB5 hb5 hk05 hb h
        go_wp2_with fail
        go_ret
        obtain ⟨hF7, hB7, hk7, hfa6, hk05⟩ := HP.out
        have hoff7 : db ∉ feet mb (mput n ⟨⟨x.b ++ b, x.sure⟩, x.fb, a6, c6⟩ fl5) := fun hy => by
          have hb' := hB7
          unfold Blk at hb'
          rcases mem_feet.1 hy with rfl | ⟨f, hf, hy⟩
          · obtain ⟨es, cl, h2, _⟩ := hF7.map
            rw [hb'] at h2
            cases h2
          · obtain ⟨cs, t, h1, ht⟩ := (hF7.file f hf).kinds _ hy
            rw [hb'] at h1
            simp only [Option.some.injEq, Obj.cells.injEq] at h1
            rcases ht with rfl | rfl
            · exact absurd h1.2.1 (by decide)
            · exact absurd h1.2.1 (by decide)
        have hk78 := (Keeps.refl [db] w7).set (p := ⟨db, 2, none⟩) (.inl (by simp)) (.int .i64 ((usedOf d.fs + b.length : Nat) : Int))
        have hF8 := hF7.keep hk78 (fun y hy => by simp; rintro rfl; exact hoff7 hy)
        have hgx := HG.out
        have husd : usedOf (mput n ⟨x.b ++ b, x.sure⟩ d.fs) = usedOf d.fs + b.length := by
          have := usedOf_mput (n := n) (f := ⟨x.b ++ b, x.sure⟩) (fs := d.fs)
          rw [show (mget n d.fs).getD ⟨[], 0⟩ = x.toFil from hgx.symm] at this
          simp only [List.length_append] at this
          omega
        have hOk : ({ d.tick with fs := mput n ⟨x.b ++ b, x.sure⟩ d.fs } : DSt).Ok := by
          refine (HOK.out.tick).put (n := n) (f := ⟨x.b ++ b, x.sure⟩) ?_ ?_ ?_ ?_
          · have := HXS.out; show x.sure ≤ (x.b ++ b).length; simp; omega
          · show (x.b ++ b).length ≤ 1048576; simp; omega
          · show usedOf d.fs + (x.b ++ b).length ≤ d.room + (d.got n).b.length
            rw [← hgx]
            simp
            omega
          · exact HNEW.out
        have hres : d.append n b = ({ d.tick with fs := mput n ⟨x.b ++ b, x.sure⟩ d.fs }, .ok) := by
          have e1 : (d.got n).b = x.b := by rw [← hgx]
          have e2 : (d.got n).sure = x.sure := by rw [← hgx]
          simp only [DSt.append, ho, HR.out, e1, e2]
          rw [if_neg (by simp), if_neg (by simp), if_neg HNF.out, if_neg h0]
        rw [hres]
        refine ⟨.nilIface, db :: feet mb (mput n ⟨⟨x.b ++ b, x.sure⟩, x.fb, a6, c6⟩ fl5), rfl, rfl, ⟨mb, _, ?_, hF8, ?_, rfl, hOk⟩, ?_, ?_⟩
        · refine (hB7.put 2 (.int .i64 ((usedOf d.fs + b.length : Nat) : Int))).eq ?_
          simp [husd, DSt.tick]
        · rw [fils_mput, HFS.out]
        · exact hk7.step hk78 (fun y hy => by simp at hy; subst hy; exact .inl hdb)
        · intro y hy
          rcases List.mem_cons.1 hy with rfl | hy
          · exact .inl hdb
          rcases mem_feet.1 hy with rfl | ⟨f, hf, hy⟩
          · exact hm5 _ (mem_feet.2 (.inl rfl))
          rcases mem_mput hf with rfl | hf
          · rcases List.mem_cons.1 hy with rfl | hy
            · exact hm5 _ (mem_feet.2 (.inr ⟨(n, x), mget_mem hx5, .head _⟩))
            · rcases hfa6 y hy with h1 | h1
              · exact hm5 _ (mem_feet.2 (.inr ⟨(n, x), mget_mem hx5, .tail _ h1⟩))
              · exact .inr (Nat.le_trans hk05.size h1)
          · exact hm5 _ (mem_feet.2 (.inr ⟨f, hf, hy⟩))
set_option maxRecDepth 100000 in
set_option maxHeartbeats 4000000 in
theorem dappend_some (h : DiskAt w L db d mb fl) (ho : d.off = false) (n b : List UInt8) (hn : n.length ≤ 1000000) {x : FlM} (hm : mget n fl = some x) {bo : Option Addr} {bc : Nat} (hb : Rb w bo bc b) (hbl : b.length ≤ 1099511627776) (hoff : ∀ ad, bo = some ad → bys b ≠ [] → ad.block ∉ L) (hc : d.count < 4611686018427387904) :
    Calls Tryz.prog 8 #[.pointer (some ⟨db, 0, none⟩), .string ⟨n.toArray⟩, .slice bo b.length bc] w (DPost w L db (d.append n b)) := by
  obtain ⟨iB, zB, hiB, hzB, hsB, hbB, hcB⟩ := infoB
  have hmd : mget n d.fs = some x.toFil := by rw [h.mget, hm]; rfl
  have hdb := h.mem_db
  go_enter Tryz.func8, Tryz.ntmps8
  go_wp2_with fail
  refine (dfind_some h ho hm).mono ?_
  rintro e w' ⟨rfl, hw⟩
  obtain rfl := hw.symm
  go_wp2_with fail
  refine (is_nil 32 w).mono ?_
  rintro e w' ⟨rfl, hw⟩
  obtain rfl := hw
  go_wp2_with fail
  refine (right_any n w hn).mono ?_
  rintro e w' ⟨rfl, hw⟩
  obtain rfl := hw.symm
  cases hr : right n with
  | false =>
    have HR := Lib.hid hr
    clear hr
    go_wp2_with fail
    refine (fault_any n 20 w).mono ?_
    rintro e w2 ⟨ev2, rfl, hE2, hk2⟩
    go_wp2_with fail
    go_ret
    rw [show d.append n b = (d, .bad n 20) by simp [DSt.append, ho, HR.out]]
    exact h.refs hE2 hk2
  | true =>
    have HR := Lib.hid hr
    clear hr
    have hu := h.ok.used
    have hrm := h.ok.room
    have hcl := h.blk.cell
    have q1 : IntKind.i64.wrap ((d.room : Int) - (usedOf d.fs : Int)) = (d.room : Int) - (usedOf d.fs : Int) := IntWalk.i64_in _ (by omega)
    go_upto_region 6 with (fail)
    obtain ⟨t1, ht1⟩ : ∃ t1 : Bool, t1 = decide ((d.room : Int) - (usedOf d.fs : Int) < (b.length : Int)) := ⟨_, rfl⟩
    have HT := Lib.hid ht1
    go_quiet (fail)
    have hk2 := (Keeps.refl [] w).drewN nq
    rw [← ht1]
    clear ht1 hcl q1
    replace h := h.keep hk2 (by simp)
    replace hb := hb.keep0 hk2
    generalize w.drewN nq = w2 at *
    have hX : FileAt w2 x := h.files.file (n, x) (mget_mem hm)
    have hxcl := hX.blk.cell
    have hxmo := hX.most
    have q1 : IntKind.i64.wrap (1048576 - (x.b.length : Int)) = 1048576 - (x.b.length : Int) := IntWalk.i64_in _ (by omega)
    have hgot := DSt.got_some hmd
    by_cases hfull : d.room < usedOf d.fs + b.length ∨ 1048576 < x.b.length + b.length
    · have HF := Lib.hid hfull
      have res : d.append n b = (d, .bad n 31) := by
        simp only [DSt.append, ho, HR.out, hgot, hmd]
        simp
        omega
      have fin : ∀ w3 ev3, DE w3 ev3 (.bad n 31) → Keeps [] w2 w3 → DPost w L db (d.append n b) (.returned ev3) w3 := fun w3 ev3 h3 hk3 => by
        rw [res]
        obtain ⟨ev', L', h1, h2, h4, h5, h6⟩ := h.refs h3 hk3
        exact ⟨ev', L', h1, h2, h4, hk2.of_nil.trans h5, fun x hx => (h6 x hx).imp id (fun h => Nat.le_trans hk2.size h)⟩
      have FIN := Lib.hid fin
      clear fin res
      by_cases c1 : d.room < usedOf d.fs + b.length
      · obtain rfl : t1 = true := by rw [HT.out]; simp; omega
        clear hfull
        go_wp2_with fail
        refine (fault_any n 31 w2).mono ?_
        rintro e w3 ⟨ev3, rfl, hE3, hk3⟩
        go_wp2_with fail
        go_ret
        exact FIN.out _ _ hE3 hk3
      · obtain rfl : t1 = false := by rw [HT.out]; simp; omega
        have m3 : 1048576 - (x.b.length : Int) < (b.length : Int) := by omega
        clear hfull
        go_wp2_with fail
        refine (fault_any n 31 w2).mono ?_
        rintro e w3 ⟨ev3, rfl, hE3, hk3⟩
        go_wp2_with fail
        go_ret
        exact FIN.out _ _ hE3 hk3
    · obtain rfl : t1 = false := by rw [HT.out]; simp; omega
      have m3 : ¬ (1048576 - (x.b.length : Int) < (b.length : Int)) := by omega
      have HF := Lib.hid hfull
      clear hfull
      go_wp2_with fail
      clear hX hxcl
      by_cases h0 : d.halt = 0
      · refine (ddoes_zero h h0).mono ?_
        rintro e w3 ⟨rfl, h3, hk3⟩
        go_wp2_with fail
        go_ret
        have hres : d.append n b = (d.fall, .down) := by
          simp only [DSt.append, ho, HR.out, hgot]
          rw [if_neg (by simp), if_neg (by simp), if_neg (by rw [hmd]; simpa using by have := HF.out; omega), if_pos h0]
        rw [hres]
        exact ⟨_, L, rfl, rfl, ⟨mb, fl, h3⟩, hk2.of_nil.trans (hk3.mono (by simpa using hdb)), fun _ hx => .inl hx⟩
      · refine (ddoes_ok h h0 hc).mono ?_
        rintro e w5 ⟨rfl, h3, hk3⟩
        have hb5 := hb.keep hk3 (fun ad e1 e2 => by
          simp only [List.mem_singleton]
          intro e3
          exact hoff ad e1 e2 (by rw [e3]; exact hdb))
        have hF5 := h3.files
        have hx5 := hm
        have hd5 := h3.db_off
        have hB5 : Blk w5 db 70 #[.map (some mb), .int .i64 (d.room : Nat), .int .i64 (usedOf d.fs : Nat), .int .i64 ((d.count + 1 : Nat) : Int), .int .i64 d.tick.halt, .bool d.off] := h3.blk
        have hm5 : ∀ y ∈ feet mb fl, y ∈ L ∨ w.heap.size ≤ y := fun y hy => .inl (by rw [h3.feet]; exact .tail _ hy)
        have hk05 : Keeps L w w5 := (hk2.of_nil (L := L)).trans (hk3.mono (by simpa using hdb))
        have HG := Lib.hid (show x.toFil = d.got n by rw [hgot])
        have HOK := Lib.hid h.ok
        have HXS := Lib.hid (show x.sure ≤ x.b.length from (h3.files.file (n, x) (mget_mem hm)).sure)
        have HNEW := Lib.hid (show mget n d.tick.fs = none → d.tick.fs.length < 64 ∧ n.length ≤ 40 from fun e => by rw [show mget n d.tick.fs = mget n d.fs from rfl, hmd] at e; cases e)
        have HNF := Lib.hid (show ¬ (d.room < usedOf d.fs + b.length ∨ (mget n d.fs = none ∧ 64 ≤ d.fs.length) ∨ 1048576 < x.b.length + b.length) by
          have := HF.out
          rw [hmd]
          simp
          omega)
        have HFS := Lib.hid (show mput n ⟨x.b ++ b, x.sure⟩ d.fs = mput n (⟨x.b ++ b, x.sure⟩ : Fil) (fils fl) by rw [← h.fs])
        have hbx : x.b.length + b.length ≤ 1048576 := by have := HNF.out; omega
        have hux : usedOf d.fs + b.length ≤ d.room := by have := HNF.out; omega
        generalize fl = fl5 at *
        clear h3 hk3 hgot hm m3 hk2
        have hX : FileAt w5 x := hF5.file (n, x) (mget_mem hx5)
        have hxc := hX.blk.cell
        have hxf := hX.blk.free
        have hxm := hX.most
        have hfo := hX.ne_buf hX
        go_upto_region 18 with (at_builtin; refine wpList_append_bg _ rfl _ _ 26 26 rfl iB zB Tryz.underlying26 hiB hzB hsB hbB hcB x.ao x.c x.b rfl hX.own _ rfl b (hb5.src Tryz.underlying26) (by unfold maxLen; omega) (by omega) ?_; intro a6 c6 w6 hO6 hk6 hb6; have hX6 := hX.blk.keep hk6 hfo; have hxc6 := hX6.cell; have hxf6 := hX6.free)
        have hX7 := hX6.put 0 (.slice a6 (x.b.length + b.length) c6)
        have hk67 := (Keeps.refl [x.fb] w6).set (p := ⟨x.fb, 0, none⟩) (.inl (by simp)) (.slice a6 (x.b.length + b.length) c6)
        generalize World.setCell w6 _ _ = w7 at *
        have hO6' := hO6
        have hfa6 := hb6
        have hfl5 := hX.blk.lt
        have hO7 : OwnG w7 a6 c6 (x.b ++ b) := hO6'.keep hk67 (fun y hy => by
          simp only [List.mem_singleton]
          rintro rfl
          rcases hfa6 _ hy with h1 | h1
          · exact hfo h1
          · omega)
        have hk57 : Keeps x.feet w5 w7 := (hk6.mono (L' := x.feet) (fun y hy => .tail _ hy)).trans (hk67.mono (fun y hy => by simp at hy; subst hy; exact .head _))
        have hF7 := hF5.turn (x' := ⟨⟨x.b ++ b, x.sure⟩, x.fb, a6, c6⟩) hx5 rfl hk57 ⟨hX7.eq (by simp), hO7, by have := hX.sure; simp; omega, by simp; omega⟩ hfa6
        have hB7 := hB5.keep hk57 (fun hy => hd5 (mem_feet.2 (.inr ⟨(n, x), mget_mem hx5, hy⟩)))
        have hk7 : Keeps L w w7 := hk05.step hk57 (fun y hy => hm5 y (mem_feet.2 (.inr ⟨(n, x), mget_mem hx5, hy⟩)))
        have hbc := hB7.cell
        have hbf := hB7.free
        have q2 : IntKind.i64.wrap ((usedOf d.fs : Int) + (b.length : Int)) = ((usedOf d.fs + b.length : Nat) : Int) := by
          rw [IntWalk.i64_in _ (by omega)]
          omega
        have HP := Lib.hid (And.intro hF7 (And.intro hB7 (And.intro hk7 (And.intro hfa6 hk05))))
        clear hX hxc hxf hX6 hxc6 hxf6 hX7 hk67 hO6' hfa6 hO7 hk57 hF7 hk7 hO6 hk6 hb6 hF5 hB5 hb5 hk05 hb h
        go_wp2_with fail
        go_ret
        obtain ⟨hF7, hB7, hk7, hfa6, hk05⟩ := HP.out
        have hoff7 : db ∉ feet mb (mput n ⟨⟨x.b ++ b, x.sure⟩, x.fb, a6, c6⟩ fl5) := fun hy => by
          have hb' := hB7
          unfold Blk at hb'
          rcases mem_feet.1 hy with rfl | ⟨f, hf, hy⟩
          · obtain ⟨es, cl, h2, _⟩ := hF7.map
            rw [hb'] at h2
            cases h2
          · obtain ⟨cs, t, h1, ht⟩ := (hF7.file f hf).kinds _ hy
            rw [hb'] at h1
            simp only [Option.some.injEq, Obj.cells.injEq] at h1
            rcases ht with rfl | rfl
            · exact absurd h1.2.1 (by decide)
            · exact absurd h1.2.1 (by decide)
        have hk78 := (Keeps.refl [db] w7).set (p := ⟨db, 2, none⟩) (.inl (by simp)) (.int .i64 ((usedOf d.fs + b.length : Nat) : Int))
        have hF8 := hF7.keep hk78 (fun y hy => by simp; rintro rfl; exact hoff7 hy)
        have hgx := HG.out
        have husd : usedOf (mput n ⟨x.b ++ b, x.sure⟩ d.fs) = usedOf d.fs + b.length := by
          have := usedOf_mput (n := n) (f := ⟨x.b ++ b, x.sure⟩) (fs := d.fs)
          rw [show (mget n d.fs).getD ⟨[], 0⟩ = x.toFil from hgx.symm] at this
          simp only [List.length_append] at this
          omega
        have hOk : ({ d.tick with fs := mput n ⟨x.b ++ b, x.sure⟩ d.fs } : DSt).Ok := by
          refine (HOK.out.tick).put (n := n) (f := ⟨x.b ++ b, x.sure⟩) ?_ ?_ ?_ ?_
          · have := HXS.out; show x.sure ≤ (x.b ++ b).length; simp; omega
          · show (x.b ++ b).length ≤ 1048576; simp; omega
          · show usedOf d.fs + (x.b ++ b).length ≤ d.room + (d.got n).b.length
            rw [← hgx]
            simp
            omega
          · exact HNEW.out
        have hres : d.append n b = ({ d.tick with fs := mput n ⟨x.b ++ b, x.sure⟩ d.fs }, .ok) := by
          have e1 : (d.got n).b = x.b := by rw [← hgx]
          have e2 : (d.got n).sure = x.sure := by rw [← hgx]
          simp only [DSt.append, ho, HR.out, e1, e2]
          rw [if_neg (by simp), if_neg (by simp), if_neg HNF.out, if_neg h0]
        rw [hres]
        refine ⟨.nilIface, db :: feet mb (mput n ⟨⟨x.b ++ b, x.sure⟩, x.fb, a6, c6⟩ fl5), rfl, rfl, ⟨mb, _, ?_, hF8, ?_, rfl, hOk⟩, ?_, ?_⟩
        · refine (hB7.put 2 (.int .i64 ((usedOf d.fs + b.length : Nat) : Int))).eq ?_
          simp [husd, DSt.tick]
        · rw [fils_mput, HFS.out]
        · exact hk7.step hk78 (fun y hy => by simp at hy; subst hy; exact .inl hdb)
        · intro y hy
          rcases List.mem_cons.1 hy with rfl | hy
          · exact .inl hdb
          rcases mem_feet.1 hy with rfl | ⟨f, hf, hy⟩
          · exact hm5 _ (mem_feet.2 (.inl rfl))
          rcases mem_mput hf with rfl | hf
          · rcases List.mem_cons.1 hy with rfl | hy
            · exact hm5 _ (mem_feet.2 (.inr ⟨(n, x), mget_mem hx5, .head _⟩))
            · rcases hfa6 y hy with h1 | h1
              · exact hm5 _ (mem_feet.2 (.inr ⟨(n, x), mget_mem hx5, .tail _ h1⟩))
              · exact .inr (Nat.le_trans hk05.size h1)
          · exact hm5 _ (mem_feet.2 (.inr ⟨f, hf, hy⟩))

theorem dappend {w : World} {L : List Nat} {db : Nat} {d : DSt} (h : Disk w L db d) (n b : List UInt8) (hn : n.length ≤ 1000000) {bo : Option Addr} {bc : Nat} (hb : Rb w bo bc b) (hbl : b.length ≤ 1099511627776) (hoff : ∀ ad, bo = some ad → bys b ≠ [] → ad.block ∉ L) (hc : d.count < 4611686018427387904) :
    Calls Tryz.prog 8 #[.pointer (some ⟨db, 0, none⟩), .string ⟨n.toArray⟩, .slice bo b.length bc] w (DPost w L db (d.append n b)) := by
  obtain ⟨mb, fl, h⟩ := h
  cases ho : d.off with
  | true => exact dappend_off h ho n b bo bc
  | false =>
    cases hm : mget n fl with
    | none => exact dappend_none h ho n b hn hm hb hbl hoff hc
    | some x => exact dappend_some h ho n b hn hm hb hbl hoff hc
end
end Go.Proofs.YtfgmbjdeimallaaGreatDoor
