/- TreePlays: the walk. -/
import Derived.Test.YtknnhnpcgefchaaDoorTrB
import Derived.Test.YtknnhnpcgefchaaDoorTp2
import Derived.Test.YtknnhnpcgefchaaDoorTp3
import Derived.Test.YtknnhnpcgefchaaDoorTp4
import Derived.Test.YtknnhnpcgefchaaDoorTp5
import Derived.Test.YtknnhnpcgefchaaDoorTp6
import Derived.Test.YtknnhnpcgefchaaDoorTp7
import Derived.Deep.DeepCutAuto
import Derived.Deep.CutBlock
import Derived.Deep.CutRange

namespace Go.Proofs.YtknnhnpcgefchaaDoor
open Go.RowKit Go.Lib
set_option maxRecDepth 1000000 in
set_option maxHeartbeats 40000000 in
theorem plays_any (ao : Option Addr) (c : Nat) (ss : List Stp) (w : World) (hg : (w).cell? ⟨0, 0, none⟩ = some (.iface 125 (.agg #[.pointer (some ⟨2, 48, none⟩)]))) (hS : Sl w 3 ao ss.length c (sts ss)) (hAt : ∀ s ∈ ss, s.At w) :
    Calls Tryd.prog 3 #[.slice ao ss.length c] w fun e w' => e = .returned (.bool true) ∧ Keeps [] w w' := by
  obtain ⟨iB, z, hi, hz, hsz, hby, hzc⟩ := infoB
  obtain ⟨iE, zE, hiE, hzE, hszE, hbyE, hzcE⟩ := infoE
  go_enter Tryd.func3, Tryd.ntmps3
  go_wp2_with fail
  refine (known_any w).mono ?_
  rintro e w1 ⟨rfl, hk1⟩
  go_wp2_with fail
  refine (few_any (hS.keep0 hk1) (by have := hS.cap; have := hS.most; unfold maxLen at this; omega)).mono ?_
  rintro e w2 ⟨b, rfl, hw, hb⟩
  obtain rfl := hw.symm
  cases b with
  | false =>
    clear hb
    go_wp2_with fail
    go_ret
    exact ⟨rfl, hk1⟩
  | true =>
    obtain ⟨hfew, hlen⟩ := hb rfl
    clear hb
    go_wp2_with fail
    refine (tnew w1).mono ?_
    rintro e w2 ⟨t, rfl, hta, hT0, hk2⟩
    go_wp2_with fail
    refine (tseek (t := t) (k := []) (Sl.none w2 1) (by simp)).mono ?_
    rintro e w3 ⟨cb, rfl, hcb, hC0, hk3⟩
    have hT3 := (hT0.mono (F' := fun x => x ≠ t ∧ x < w2.heap.size) (fun x hx hlt => ⟨hx.2, hlt⟩) (fun h => h.1 rfl)).keep0 hk3
    go_wp2_with fail
    refine (tclone hT3).mono ?_
    rintro e w4 ⟨tc, rfl, htc, hT4, hk4⟩
    have ht2 := hT0.lt
    have hc3 := hC0.lt
    have hk03 := (hk1.trans hk2).trans hk3
    have hst : PSt w4 t cb tc [] [] [] false none 0 none 0 := by
      have hs3 := hk3.size
      refine ⟨(hT3.mono (F' := Off3 t cb tc) (fun x hx hlt => ⟨hx.1, ?_, ?_⟩) (fun h => h.1 rfl)).keep0 hk4, hT4.mono (fun x hx _ => ⟨hx.1.1, ?_, ?_⟩) (fun h => h.2.2 rfl), (hC0.mono (K' := Off3 t cb tc) (fun x hx hlt => ⟨?_, hx.2, ?_⟩)).keep0 hk4, by omega, by omega, by omega, Sl.none _ _, Fr.no _ _, Sl.none _ _, Fr.no _ _, by simp, by simp, .inl ⟨rfl, rfl⟩⟩
      · have := hx.2; omega
      · have := hx.2; omega
      · have := hx.1.2; omega
      · have := hx.1.2; omega
      · have := hx.1; omega
      · omega
    have HST := Lib.hid (And.intro hst (hk03.trans hk4))
    have HFEW := Lib.hid hfew
    have hwt : w.heap.size ≤ t := Nat.le_trans hk1.size hta
    have hwc : w.heap.size ≤ cb := Nat.le_trans (hk1.trans hk2).size hcb
    clear hst hfew hk03 hk4 hk3 hk2 hk1 hT0 hT3 hT4 hC0 hta hcb htc ht2 hc3
    go_wp2_with fail
    go_loopw [4, 5, 6, 7, 8, 9, 10] (fun v4 v5 v6 v7 v8 v9 v10 wr => ∃ (i : Nat) (l lo : List KV) (a4 : Option Addr) (c4 : Nat) (a5 : Option Addr) (c5 : Nat) (cb : Nat) (k : Bs) (ab : Bool) (tc : Nat), v4 = .slice a4 l.length c4 ∧ v5 = .slice a5 lo.length c5 ∧ v6 = .pointer (some ⟨cb, 0, none⟩) ∧ v7 = .string ⟨k.toArray⟩ ∧ v8 = .bool ab ∧ v9 = .pointer (some ⟨tc, 0, none⟩) ∧ v10 = .int .i64 (i : Int) ∧ i ≤ ss.length ∧ l.length ≤ i ∧ lo.length ≤ i ∧ w.heap.size ≤ cb ∧ PSt wr t cb tc l lo k ab a4 c4 a5 c5 ∧ Keeps [] w wr) (fun _ _ _ _ _ _ v _ => ss.length - (intOf v).toNat)
    case atStart => exact ⟨0, [], [], none, 0, none, 0, cb, [], false, tc, rfl, rfl, rfl, rfl, rfl, rfl, rfl, Nat.zero_le _, Nat.le_refl _, Nat.le_refl _, hwc, HST.out.1, HST.out.2⟩
    case round =>
      clear HST hwc
      obtain ⟨i, l, lo, a4, c4, a5, c5, cb, k, ab, tc, rfl, rfl, rfl, rfl, rfl, rfl, rfl, hin, hll, hlo, hwc, hP, hkr⟩ := hrel
      rcases (by omega : i = ss.length ∨ i < ss.length) with hie | hil
      · skip
        obtain rfl := hie
        have n1 : ¬ ((ss.length : Int) < (ss.length : Int)) := by omega
        have hsl := dump_small hP.sm (by omega)
        have hso := dump_small hP.so (by omega)
        have HP := Lib.hid hP
        have hDu := tdump hP.tr (by omega)
        clear hP
        go_wp2_with fail
        refine hDu.mono ?_
        rintro e w5 ⟨ad, cd, rfl, hD, hk5⟩
        clear hDu
        have HD := Lib.hid hD
        have hDl := dumpL_any (HP.out.m.keep0 hk5) (by omega) (by omega) (fun p hp => by have := HP.out.sm p hp; omega)
        clear hD
        go_wp2_with fail
        refine hDl.mono ?_
        rintro e w6 ⟨a2, c2, rfl, hD2, hk6⟩
        clear hDl
        have hk56 := hk5.trans hk6
        have hB := bytes_any ad a2 cd c2 _ _ w6 (HD.out.rb.keep0 hk6) hD2.rb
        rw [beq_self_eq_true] at hB
        clear hD2
        go_wp2_with fail
        refine hB.mono ?_
        rintro e w7 ⟨rfl, hw⟩
        obtain rfl := hw.symm
        clear hB
        have hDc := tdump (HP.out.cl.keep0 hk56) (by omega)
        go_wp2_with fail
        refine hDc.mono ?_
        rintro e w8 ⟨a3, c3, rfl, hD3, hk8⟩
        clear hDc
        have hk58 := hk56.trans hk8
        have HD3 := Lib.hid hD3
        clear hD3
        have hDl := dumpL_any (HP.out.o.keep0 hk58) (by omega) (by omega) (fun p hp => by have := HP.out.so p hp; omega)
        go_wp2_with fail
        refine hDl.mono ?_
        rintro e w9 ⟨a6, c6, rfl, hD6, hk9⟩
        clear hDl
        have hk59 := hk58.trans hk9
        have hB := bytes_any a3 a6 c3 c6 _ _ w9 (HD3.out.rb.keep0 hk9) hD6.rb
        rw [beq_self_eq_true] at hB
        clear hD6
        go_wp2_with fail
        refine hB.mono ?_
        rintro e w10 ⟨rfl, hw⟩
        obtain rfl := hw.symm
        clear hB
        have hd59 : Rb w9 ad cd (dumpB uvarint l) := HD.out.rb.keep0 ((hk6.trans hk8).trans hk9)
        have hLd := loadOk HP.out.tr.srt (by omega) hd59
        clear hd59
        go_wp2_with fail
        refine hLd.mono ?_
        rintro e w11 ⟨u, lu, F, rfl, hTu, hdu, hlu, hk11⟩
        clear hLd
        have hk511 := hk59.trans hk11
        have hLn := tlen hTu
        rw [hlu] at hLn
        have hDu := tdump hTu (by rw [hdu]; omega)
        rw [hdu] at hDu
        clear hTu hdu hlu
        go_wp2_with fail
        refine hLn.mono ?_
        rintro e w12 ⟨rfl, hw⟩
        obtain rfl := hw.symm
        clear hLn
        go_wp2_with fail
        refine hDu.mono ?_
        rintro e w13 ⟨a7, c7, rfl, hD7, hk13⟩
        clear hDu
        have hB := bytes_any a7 ad c7 cd _ _ w13 hD7.rb (HD.out.rb.keep0 ((((hk6.trans hk8).trans hk9).trans hk11).trans hk13))
        rw [beq_self_eq_true] at hB
        clear hD7
        go_wp2_with fail
        refine hB.mono ?_
        rintro e w14 ⟨rfl, hw⟩
        obtain rfl := hw.symm
        clear hB
        go_wp2_with fail
        go_ret
        exact ⟨rfl, (hkr.trans hk511).trans hk13⟩
      · obtain ⟨s, hs⟩ : ∃ s, ss[i]? = some s := ⟨_, List.getElem?_eq_getElem hil⟩
        have n1 : (i : Int) < (ss.length : Int) := by omega
        have n2 : (0 : Int) ≤ (i : Int) := by omega
        have hsm := List.mem_of_getElem? hs
        have hsf := HFEW.out s hsm
        have hcap := hS.cap
        obtain ⟨bb, o, rfl⟩ := hS.at (by omega)
        have hrun : ∀ j v, ([.int .i64 s.what, .slice s.ka s.k.length s.kc, .slice s.va s.v.length s.vc] : List Value)[j]? = some v → wr.cell? ⟨bb, o + i * 3 + j, none⟩ = some v := fun j v hj => by
          have := (hS.keep0 hkr).cells rfl _ _ (sts_at hs j v hj)
          rw [addr_add rfl] at this
          simpa [Nat.add_assoc] using this
        have hsA := hAt s hsm
        clear hs hsm
        go_upto_region 14 with (refine wpList_load_runG rfl 32 _ rfl bb (o + i * 3) rfl [.int .i64 s.what, .slice s.ka s.k.length s.kc, .slice s.va s.v.length s.vc] hrun _ Tryd.underlying32 rfl Tryd.sizeStep ?_)
        have hX := Blk.fresh wr 32 #[.int .i64 s.what, .slice s.ka s.k.length s.kc, .slice s.va s.v.length s.vc]
        have hkX := (Keeps.refl [] wr).alloc (.cells #[.int .i64 s.what, .slice s.ka s.k.length s.kc, .slice s.va s.v.length s.vc] 32)
        generalize hw3 : World.alloc wr _ = w3 at *
        generalize hsb : wr.heap.size = sb at *
        have hk03 := hkr.trans hkX
        have hP3 := hP.keep hkX
        have hsA3 : s.At w3 := ⟨hsA.1.keep0 hk03, hsA.2.keep0 hk03⟩
        have HP3 := Lib.hid hP3
        clear hrun hP hP3 hw3 hkX hkr
        have HR0 : (∀ W : World, Keeps [] w3 W → ∀ q ∈ [((1 : Nat), fun w0 : World => w0.cell? ⟨sb, 1, none⟩ = some (.slice s.ka s.k.length s.kc)), ((2 : Nat), fun w0 : World => (convert 30 9 (.slice s.ka s.k.length s.kc)).run Tryd.prog w0 = .ok (.string ⟨s.k.toArray⟩) w0), ((4 : Nat), fun w0 : World => w0.cell? ⟨sb, 2, none⟩ = some (.slice s.va s.v.length s.vc)), ((5 : Nat), fun w0 : World => (convert 30 9 (.slice s.va s.v.length s.vc)).run Tryd.prog w0 = .ok (.string ⟨s.v.toArray⟩) w0)], q.2 W) := fun W hW => rds4 (hW.cellSome (hX.cell 1) (by simp)) (run_text (hsA3.1.keep0 hW) 30 9 Tryd.underlying30 Tryd.underlying9) (hW.cellSome (hX.cell 2) (by simp)) (run_text (hsA3.2.keep0 hW) 30 9 Tryd.underlying30 Tryd.underlying9)
        have hkd := (Keeps.refl [] w3).drew
        have hSw := HR0 _ hkd
        have HR := Lib.hid HR0
        clear HR0
        refine startU [((1 : Nat), fun w0 : World => w0.cell? ⟨sb, 1, none⟩ = some (.slice s.ka s.k.length s.kc)), ((2 : Nat), fun w0 : World => (convert 30 9 (.slice s.ka s.k.length s.kc)).run Tryd.prog w0 = .ok (.string ⟨s.k.toArray⟩) w0), ((4 : Nat), fun w0 : World => w0.cell? ⟨sb, 2, none⟩ = some (.slice s.va s.v.length s.vc)), ((5 : Nat), fun w0 : World => (convert 30 9 (.slice s.va s.v.length s.vc)).run Tryd.prog w0 = .ok (.string ⟨s.v.toArray⟩) w0)] (by kernel_rfl) ?_
        generalize w3.drew = w4 at *
        refine takeU (i := 0) (v := ?_) rfl (by kernel_rfl) (fun _ _ _ h => h) (Or.inl ⟨by rfl, fun w0 hw0 => ?_⟩) (fun p hp _ => hSw p hp) ?_
        rotate_left
        · simp [Reads] at hw0
          go_simp
          try with_reducible rfl
        try go_simp
        refine takeU (i := 1) (v := ?_) rfl (by kernel_rfl) (fun _ _ _ h => h) (Or.inl ⟨by rfl, fun w0 hw0 => ?_⟩) (fun p hp _ => hSw p hp) ?_
        rotate_left
        · simp [Reads] at hw0
          go_simp
          try with_reducible rfl
        try go_simp
        refine takeU (i := 2) (v := ?_) rfl (by kernel_rfl) (fun _ _ _ h => h) (Or.inl ⟨by rfl, fun w0 hw0 => ?_⟩) (fun p hp _ => hSw p hp) ?_
        rotate_left
        · simp [Reads] at hw0
          go_simp
          try with_reducible rfl
        try go_simp
        refine takeU (i := 3) (v := ?_) rfl (by kernel_rfl) (fun _ _ _ h => h) (Or.inl ⟨by rfl, fun w0 hw0 => ?_⟩) (fun p hp _ => hSw p hp) ?_
        rotate_left
        · simp [Reads] at hw0
          go_simp
          try with_reducible rfl
        try go_simp
        refine takeU (i := 4) (v := ?_) rfl (by kernel_rfl) (fun _ _ _ h => h) (Or.inl ⟨by rfl, fun w0 hw0 => ?_⟩) (fun p hp _ => hSw p hp) ?_
        rotate_left
        · simp [Reads] at hw0
          go_simp
          try with_reducible rfl
        try go_simp
        refine takeU (i := 5) (v := ?_) rfl (by kernel_rfl) (fun _ _ _ h => h) (Or.inl ⟨by rfl, fun w0 hw0 => ?_⟩) (fun p hp _ => hSw p hp) ?_
        rotate_left
        · simp [Reads] at hw0
          go_simp
          try with_reducible rfl
        try go_simp
        refine takeU (i := 6) (v := ?_) rfl (by kernel_rfl) (fun _ _ _ h => h) (Or.inl ⟨by rfl, fun w0 hw0 => ?_⟩) (fun p hp _ => hSw p hp) ?_
        rotate_left
        · simp [Reads] at hw0
          go_simp
          try with_reducible rfl
        try go_simp
        refine takeU (i := 7) (v := ?_) rfl (by kernel_rfl) (fun _ _ _ h => h) (Or.inl ⟨by rfl, fun w0 hw0 => ?_⟩) (fun p hp _ => hSw p hp) ?_
        rotate_left
        · simp [Reads] at hw0
          go_simp
          try with_reducible rfl
        try go_simp
        clear hSw HR
        refine doneU (by kernel_rfl) ?_
        have hP4 := HP3.out.keep hkd
        have HP4 := Lib.hid hP4
        have hl4 := hP4.tr.srt
        have hPl := place_any (k := s.k) hP4.m hl4 (by omega)
        clear hP4
        go_wp2_with fail
        obtain ⟨fb, hfb⟩ : ∃ fb, fb = has s.k l := ⟨_, rfl⟩
        obtain ⟨at_, hat⟩ : ∃ at_, at_ = (Go.Proofs.YtknnhnpcgefchaaDoor.lo s.k l).length := ⟨_, rfl⟩
        rw [← hfb, ← hat] at hPl
        have HFB := Lib.hid hfb
        have HAT := Lib.hid hat
        clear hfb hat
        refine hPl.mono ?_
        rintro e w5 ⟨rfl, hk5⟩
        clear hPl
        go_upto_region 16 with (fail)
        have hk35 := hkd.trans hk5
        have HP5 := Lib.hid (HP4.out.keep hk5)
        have hsA5 : s.At w5 := ⟨hsA3.1.keep0 hk35, hsA3.2.keep0 hk35⟩
        have hX5 := hX.keep hk35 (by simp)
        have hk05 := hk03.trans hk35
        clear HP4 hsA3 hX hk03 hkd hk5 hk35
        have HR0 : (∀ W : World, Keeps [] w5 W → ∀ q ∈ [((1 : Nat), fun w0 : World => w0.cell? ⟨sb, 1, none⟩ = some (.slice s.ka s.k.length s.kc)), ((4 : Nat), fun w0 : World => w0.cell? ⟨sb, 2, none⟩ = some (.slice s.va s.v.length s.vc))], q.2 W) := fun W hW => rds2 (hW.cellSome (hX5.cell 1) (by simp)) (hW.cellSome (hX5.cell 2) (by simp))
        have hkd := (Keeps.refl [] w5).drew
        have hSw := HR0 _ hkd
        have HR := Lib.hid HR0
        clear HR0
        refine startU [((1 : Nat), fun w0 : World => w0.cell? ⟨sb, 1, none⟩ = some (.slice s.ka s.k.length s.kc)), ((4 : Nat), fun w0 : World => w0.cell? ⟨sb, 2, none⟩ = some (.slice s.va s.v.length s.vc))] (by kernel_rfl) ?_
        generalize w5.drew = w6 at *
        refine takeU (i := 0) (v := ?_) rfl (by kernel_rfl) (fun _ _ _ h => h) (Or.inl ⟨by rfl, fun w0 hw0 => ?_⟩) (fun p hp _ => hSw p hp) ?_
        rotate_left
        · simp [Reads] at hw0
          go_simp
          try with_reducible rfl
        try go_simp
        refine takeU (i := 1) (v := ?_) rfl (by kernel_rfl) (fun _ _ _ h => h) (Or.inl ⟨by rfl, fun w0 hw0 => ?_⟩) (fun p hp _ => hSw p hp) ?_
        rotate_left
        · simp [Reads] at hw0
          go_simp
          try with_reducible rfl
        try go_simp
        refine takeU (i := 3) (v := ?_) rfl (by kernel_rfl) (fun _ _ _ h => h) (Or.inl ⟨by rfl, fun w0 hw0 => ?_⟩) (fun p hp _ => hSw p hp) ?_
        rotate_left
        · simp [Reads] at hw0
          go_simp
          try with_reducible rfl
        try go_simp
        refine takeU (i := 4) (v := ?_) rfl (by kernel_rfl) (fun _ _ _ h => h) (Or.inl ⟨by rfl, fun w0 hw0 => ?_⟩) (fun p hp _ => hSw p hp) ?_
        rotate_left
        · simp [Reads] at hw0
          go_simp
          try with_reducible rfl
        try go_simp
        clear hSw
        refine oneU (i := 2) rfl (by kernel_rfl) (fun K hK => ?_)
        refine step_append_by rfl _ _ 30 30 rfl (w6.heap.size) 5 iB z 1 1 Tryd.underlying30 hi hz hsz hby hzc none _ 0 _ rfl (World.ownsRow_nil _ _ _ _) _ rfl s.k.length _ ((hsA5.1.keep0 hkd).src Tryd.underlying30) (by unfold maxLen; omega) (by omega) (Nat.le_refl _) ?_
        intro ak ck w7 hOk hk7 hbk
        have hk57 := hkd.trans (hk7.mono (L' := []) (fun x hx => by simp at hx))
        refine hK _ _ (fun q hq _ _ => HR.out _ hk57 q hq) ?_
        clear hK K
        try go_simp
        refine oneU (i := 5) rfl (by kernel_rfl) (fun K hK => ?_)
        refine step_append_by rfl _ _ 30 30 rfl (w6.heap.size) 5 iB z 1 1 Tryd.underlying30 hi hz hsz hby hzc none _ 0 _ rfl (World.ownsRow_nil _ _ _ _) _ rfl s.v.length _ ((hsA5.2.keep0 hk57).src Tryd.underlying30) (by unfold maxLen; omega) (by omega) (by have := hk7.size; omega) ?_
        intro av cv w8 hOv hk8 hbv
        have hk78 := hk8.mono (L' := []) (fun x hx => by simp at hx)
        have hk58 := hk57.trans hk78
        refine hK _ _ (fun q hq _ _ => HR.out _ hk58 q hq) ?_
        clear hK K
        try go_simp
        have hSw := HR.out _ hk58
        refine takeU (i := 6) (v := ?_) rfl (by kernel_rfl) (fun _ _ _ h => h) (Or.inl ⟨by rfl, fun w0 hw0 => ?_⟩) (fun p hp _ => hSw p hp) ?_
        rotate_left
        · simp [Reads] at hw0
          go_simp
          try with_reducible rfl
        try go_simp
        refine takeU (i := 7) (v := ?_) rfl (by kernel_rfl) (fun _ _ _ h => h) (Or.inl ⟨by rfl, fun w0 hw0 => ?_⟩) (fun p hp _ => hSw p hp) ?_
        rotate_left
        · simp [Reads] at hw0
          go_simp
          try with_reducible rfl
        try go_simp
        clear hSw HR
        refine doneU (by kernel_rfl) ?_
        have hOk8 : Own w8 w6.heap.size ak ck s.k := (Own.of (by simpa using hOk) rfl : Own w7 w6.heap.size ak ck s.k).keep0 hk78
        have hOv8 : Own w8 w6.heap.size av cv s.v := Own.of (by simpa using hOv) rfl
        have hOk7 : Own w7 w6.heap.size ak ck s.k := Own.of (by simpa using hOk) rfl
        have hdis : ∀ x ∈ blks av, x ∉ blks ak := fun x hx hm => by
          have h1 := (hOk7.lt x hm).2
          have h2 := blks_of (P := fun y => w7.heap.size ≤ y) (ao := av) (fun ad e => by
            rcases hbv ad e with h | h
            · simp at h
            · exact h) x hx
          omega
        clear hOk7
        have cw : w8.cell? ⟨sb, 0, none⟩ = some (.int .i64 s.what) := hk58.cellSome (hX5.cell 0) (by simp)
        have HP6 := Lib.hid (HP5.out.keep hkd)
        have hk68 : Keeps [] w6 w8 := (hk7.mono (L' := []) (fun x hx => by simp at hx)).trans hk78
        have hk06 := hk05.trans hkd
        clear hOk hOv hk7 hk8 hbk hbv hk57 hk58 hk78 HP5 hsA5 hX5 hk05 hkd
        have hil2 : i < 250 := by omega
        go_upto_block 2 with (fail)
        go_cut [4, 5, 6, 7, 8, 9] (fun v4 v5 v6 v7 v8 v9 wx => TpRel w t i v4 v5 v6 v7 v8 v9 wx)
        case first =>
          rename_i J K hJ hK
          clear hS hAt
          by_cases hA : s.what = 0 ∨ s.what = 1 ∨ s.what = 2 ∨ s.what = 3
          · rcases Bool.eq_false_or_eq_true fb with hfv | hfv
            · exact tw_A w w6 w8 t cb tc i l lo k s.k s.v ab fb a4 a5 ak av c4 c5 ck cv at_ s.what HP6.out hOk8 hOv8 hdis hk68 hk06 hwt hwc hll hlo hil2 hsf.1 hsf.2 HFB.out HAT.out hA hfv _ _ _ _ _ _ _ _ _ _ _ _ _ _ _ _ _ _ _ _ _ _ _ _ _ _ _ _ _ _ _ _ _ _ _ _ _ _ _ _ _ _ _ _ _ _ _ _ _ _ _ _ _ _ _ _ _ _ _ _ _ _ _ _ _ _ _ _ _ _ _ _ _ _ _ _ _ _ _ _ _ _ _ _ _ _ _ _ _ _ _ _ _ _ _ _ _ _ _ _ _ _ _ _ _ _ _ _ _ _ _ _ _ _ _ _ _ _ _ _ _ _ _ _ _ _ _ _ _ _ _ _ _ _ _ _ _ _ _ _ _ _ _ _ _ _ _ _ _ _ _ _ _ _ _ _ _ _ _ _ _ _ _ _ _ _ _ _ _ _ _ _ _ _ _ _ _ _ _ _ _ _ _ _ _ _ _ _ _ _ _ _ _ _ _ _ _ _ _ _ _ _ _ _ _ _ _ _ _ _ _ _ _ _ _ _ _ _ _ _ _ _ _ _ _ _ _ _ _ _ _ _ _ _ _ _ _ _ _ _ _ _ _ _ _ _ _ _ _ _ _ _ _ _ _ _ _ _ _ _ hJ hK (fun _ _ d _ _ h => by cases d <;> exact h)
            · exact tw_B w w6 w8 t cb tc i l lo k s.k s.v ab fb a4 a5 ak av c4 c5 ck cv at_ s.what HP6.out hOk8 hOv8 hdis hk68 hk06 hwt hwc hll hlo hil2 hsf.1 hsf.2 HFB.out HAT.out hA hfv _ _ _ _ _ _ _ _ _ _ _ _ _ _ _ _ _ _ _ _ _ _ _ _ _ _ _ _ _ _ _ _ _ _ _ _ _ _ _ _ _ _ _ _ _ _ _ _ _ _ _ _ _ _ _ _ _ _ _ _ _ _ _ _ _ _ _ _ _ _ _ _ _ _ _ _ _ _ _ _ _ _ _ _ _ _ _ _ _ _ _ _ _ _ _ _ _ _ _ _ _ _ _ _ _ _ _ _ _ _ _ _ _ _ _ _ _ _ _ _ _ _ _ _ _ _ _ _ _ _ _ _ _ _ _ _ _ _ _ _ _ _ _ _ _ _ _ _ _ _ _ _ _ _ _ _ _ _ _ _ _ _ _ _ _ _ _ _ _ _ _ _ _ _ _ _ _ _ _ _ _ _ _ _ _ _ _ _ _ _ _ _ _ _ _ _ _ _ _ _ _ _ _ _ _ _ _ _ _ _ _ _ _ _ _ _ _ _ _ _ _ _ _ _ _ _ _ _ _ _ _ _ _ _ _ _ _ _ _ _ _ _ _ _ _ _ _ _ _ _ _ _ _ _ _ _ _ _ _ _ hJ hK (fun _ _ d _ _ h => by cases d <;> exact h)
          by_cases hC : s.what = 4 ∨ s.what = 5
          · rcases Bool.eq_false_or_eq_true fb with hfv | hfv
            · exact tw_C1 w w6 w8 t cb tc i l lo k s.k s.v ab fb a4 a5 ak av c4 c5 ck cv at_ s.what HP6.out hOk8 hOv8 hdis hk68 hk06 hwt hwc hll hlo hil2 hsf.1 hsf.2 HFB.out HAT.out hC hfv _ _ _ _ _ _ _ _ _ _ _ _ _ _ _ _ _ _ _ _ _ _ _ _ _ _ _ _ _ _ _ _ _ _ _ _ _ _ _ _ _ _ _ _ _ _ _ _ _ _ _ _ _ _ _ _ _ _ _ _ _ _ _ _ _ _ _ _ _ _ _ _ _ _ _ _ _ _ _ _ _ _ _ _ _ _ _ _ _ _ _ _ _ _ _ _ _ _ _ _ _ _ _ _ _ _ _ _ _ _ _ _ _ _ _ _ _ _ _ _ _ _ _ _ _ _ _ _ _ _ _ _ _ _ _ _ _ _ _ _ _ _ _ _ _ _ _ _ _ _ _ _ _ _ _ _ _ _ _ _ _ _ _ _ _ _ _ _ _ _ _ _ _ _ _ _ _ _ _ _ _ _ _ _ _ _ _ _ _ _ _ _ _ _ _ _ _ _ _ _ _ _ _ _ _ _ _ _ _ _ _ _ _ _ _ _ _ _ _ _ _ _ _ _ _ _ _ _ _ _ _ _ _ _ _ _ _ _ _ _ _ _ _ _ _ _ _ _ _ _ _ _ _ _ _ _ _ _ _ _ hJ hK (fun _ _ d _ _ h => by cases d <;> exact h)
            · exact tw_C0 w w6 w8 t cb tc i l lo k s.k s.v ab fb a4 a5 ak av c4 c5 ck cv at_ s.what HP6.out hOk8 hOv8 hdis hk68 hk06 hwt hwc hll hlo hil2 hsf.1 hsf.2 HFB.out HAT.out hC hfv _ _ _ _ _ _ _ _ _ _ _ _ _ _ _ _ _ _ _ _ _ _ _ _ _ _ _ _ _ _ _ _ _ _ _ _ _ _ _ _ _ _ _ _ _ _ _ _ _ _ _ _ _ _ _ _ _ _ _ _ _ _ _ _ _ _ _ _ _ _ _ _ _ _ _ _ _ _ _ _ _ _ _ _ _ _ _ _ _ _ _ _ _ _ _ _ _ _ _ _ _ _ _ _ _ _ _ _ _ _ _ _ _ _ _ _ _ _ _ _ _ _ _ _ _ _ _ _ _ _ _ _ _ _ _ _ _ _ _ _ _ _ _ _ _ _ _ _ _ _ _ _ _ _ _ _ _ _ _ _ _ _ _ _ _ _ _ _ _ _ _ _ _ _ _ _ _ _ _ _ _ _ _ _ _ _ _ _ _ _ _ _ _ _ _ _ _ _ _ _ _ _ _ _ _ _ _ _ _ _ _ _ _ _ _ _ _ _ _ _ _ _ _ _ _ _ _ _ _ _ _ _ _ _ _ _ _ _ _ _ _ _ _ _ _ _ _ _ _ _ _ _ _ _ _ _ _ _ _ _ hJ hK (fun _ _ d _ _ h => by cases d <;> exact h)
          by_cases hD : s.what = 6
          · exact tw_D w w6 w8 t cb tc i l lo k s.k s.v ab fb a4 a5 ak av c4 c5 ck cv at_ s.what HP6.out hOk8 hOv8 hdis hk68 hk06 hwt hwc hll hlo hil2 hsf.1 hsf.2 HFB.out HAT.out hD _ _ _ _ _ _ _ _ _ _ _ _ _ _ _ _ _ _ _ _ _ _ _ _ _ _ _ _ _ _ _ _ _ _ _ _ _ _ _ _ _ _ _ _ _ _ _ _ _ _ _ _ _ _ _ _ _ _ _ _ _ _ _ _ _ _ _ _ _ _ _ _ _ _ _ _ _ _ _ _ _ _ _ _ _ _ _ _ _ _ _ _ _ _ _ _ _ _ _ _ _ _ _ _ _ _ _ _ _ _ _ _ _ _ _ _ _ _ _ _ _ _ _ _ _ _ _ _ _ _ _ _ _ _ _ _ _ _ _ _ _ _ _ _ _ _ _ _ _ _ _ _ _ _ _ _ _ _ _ _ _ _ _ _ _ _ _ _ _ _ _ _ _ _ _ _ _ _ _ _ _ _ _ _ _ _ _ _ _ _ _ _ _ _ _ _ _ _ _ _ _ _ _ _ _ _ _ _ _ _ _ _ _ _ _ _ _ _ _ _ _ _ _ _ _ _ _ _ _ _ _ _ _ _ _ _ _ _ _ _ _ _ _ _ _ _ _ _ _ _ _ _ _ _ _ _ _ _ _ _ hJ hK (fun _ _ d _ _ h => by cases d <;> exact h)
          by_cases hE : s.what = 7 ∨ s.what = 8 ∨ s.what = 9
          · exact tw_E w w6 w8 t cb tc i l lo k s.k s.v ab fb a4 a5 ak av c4 c5 ck cv at_ s.what HP6.out hOk8 hOv8 hdis hk68 hk06 hwt hwc hll hlo hil2 hsf.1 hsf.2 HFB.out HAT.out hE _ _ _ _ _ _ _ _ _ _ _ _ _ _ _ _ _ _ _ _ _ _ _ _ _ _ _ _ _ _ _ _ _ _ _ _ _ _ _ _ _ _ _ _ _ _ _ _ _ _ _ _ _ _ _ _ _ _ _ _ _ _ _ _ _ _ _ _ _ _ _ _ _ _ _ _ _ _ _ _ _ _ _ _ _ _ _ _ _ _ _ _ _ _ _ _ _ _ _ _ _ _ _ _ _ _ _ _ _ _ _ _ _ _ _ _ _ _ _ _ _ _ _ _ _ _ _ _ _ _ _ _ _ _ _ _ _ _ _ _ _ _ _ _ _ _ _ _ _ _ _ _ _ _ _ _ _ _ _ _ _ _ _ _ _ _ _ _ _ _ _ _ _ _ _ _ _ _ _ _ _ _ _ _ _ _ _ _ _ _ _ _ _ _ _ _ _ _ _ _ _ _ _ _ _ _ _ _ _ _ _ _ _ _ _ _ _ _ _ _ _ _ _ _ _ _ _ _ _ _ _ _ _ _ _ _ _ _ _ _ _ _ _ _ _ _ _ _ _ _ _ _ _ _ _ _ _ _ _ _ hJ hK (fun _ _ d _ _ h => by cases d <;> exact h)
          by_cases hF : s.what = 10
          · exact tw_F w w6 w8 t cb tc i l lo k s.k s.v ab fb a4 a5 ak av c4 c5 ck cv at_ s.what HP6.out hOk8 hOv8 hdis hk68 hk06 hwt hwc hll hlo hil2 hsf.1 hsf.2 HFB.out HAT.out hF _ _ _ _ _ _ _ _ _ _ _ _ _ _ _ _ _ _ _ _ _ _ _ _ _ _ _ _ _ _ _ _ _ _ _ _ _ _ _ _ _ _ _ _ _ _ _ _ _ _ _ _ _ _ _ _ _ _ _ _ _ _ _ _ _ _ _ _ _ _ _ _ _ _ _ _ _ _ _ _ _ _ _ _ _ _ _ _ _ _ _ _ _ _ _ _ _ _ _ _ _ _ _ _ _ _ _ _ _ _ _ _ _ _ _ _ _ _ _ _ _ _ _ _ _ _ _ _ _ _ _ _ _ _ _ _ _ _ _ _ _ _ _ _ _ _ _ _ _ _ _ _ _ _ _ _ _ _ _ _ _ _ _ _ _ _ _ _ _ _ _ _ _ _ _ _ _ _ _ _ _ _ _ _ _ _ _ _ _ _ _ _ _ _ _ _ _ _ _ _ _ _ _ _ _ _ _ _ _ _ _ _ _ _ _ _ _ _ _ _ _ _ _ _ _ _ _ _ _ _ _ _ _ _ _ _ _ _ _ _ _ _ _ _ _ _ _ _ _ _ _ _ _ _ _ _ _ _ _ _ hJ hK (fun _ _ d _ _ h => by cases d <;> exact h)
          exact tw_G w w6 w8 t cb tc i l lo k s.k s.v ab fb a4 a5 ak av c4 c5 ck cv at_ s.what HP6.out hOk8 hOv8 hdis hk68 hk06 hwt hwc hll hlo hil2 hsf.1 hsf.2 HFB.out HAT.out (fun h => hA (.inl h)) (fun h => hA (.inr (.inl h))) (fun h => hA (.inr (.inr (.inl h)))) (fun h => hA (.inr (.inr (.inr h)))) (fun h => hC (.inl h)) (fun h => hC (.inr h)) hD (fun h => hE (.inl h)) (fun h => hE (.inr (.inl h))) (fun h => hE (.inr (.inr h))) hF _ _ _ _ _ _ _ _ _ _ _ _ _ _ _ _ _ _ _ _ _ _ _ _ _ _ _ _ _ _ _ _ _ _ _ _ _ _ _ _ _ _ _ _ _ _ _ _ _ _ _ _ _ _ _ _ _ _ _ _ _ _ _ _ _ _ _ _ _ _ _ _ _ _ _ _ _ _ _ _ _ _ _ _ _ _ _ _ _ _ _ _ _ _ _ _ _ _ _ _ _ _ _ _ _ _ _ _ _ _ _ _ _ _ _ _ _ _ _ _ _ _ _ _ _ _ _ _ _ _ _ _ _ _ _ _ _ _ _ _ _ _ _ _ _ _ _ _ _ _ _ _ _ _ _ _ _ _ _ _ _ _ _ _ _ _ _ _ _ _ _ _ _ _ _ _ _ _ _ _ _ _ _ _ _ _ _ _ _ _ _ _ _ _ _ _ _ _ _ _ _ _ _ _ _ _ _ _ _ _ _ _ _ _ _ _ _ _ _ _ _ _ _ _ _ _ _ _ _ _ _ _ _ _ _ _ _ _ _ _ _ _ _ _ _ _ _ _ _ _ _ _ _ _ _ _ _ _ _ _ hJ hK (fun _ _ d _ _ h => by cases d <;> exact h)
        case rest =>
        obtain ⟨l2, lo3, a4b, c4b, a5b, c5b, cb2, k2, ab2, tc2, rfl, rfl, rfl, rfl, rfl, rfl, hl2, hlo3, hcb2, hP2, hk2⟩ := hcut
        clear HP6 hOk8 hOv8 hdis hk68 hk06 HFB HAT hll hlo hwc cw
        have hLn := tlen hP2.tr
        have HE := Lib.hid (And.intro hP2 hk2)
        clear hP2 hk2
        go_wp2_with fail
        refine hLn.mono ?_
        rintro e w16 ⟨rfl, hw⟩
        obtain rfl := hw.symm
        clear hLn
        go_wp2_with fail
        go_roundw
        case rel => exact ⟨i + 1, l2, lo3, a4b, c4b, a5b, c5b, cb2, k2, ab2, tc2, rfl, rfl, rfl, rfl, rfl, rfl, by simp, by omega, by omega, by omega, hcb2, HE.out.1, HE.out.2⟩
        case measure => simp [intOf]; omega
end Go.Proofs.YtknnhnpcgefchaaDoor
