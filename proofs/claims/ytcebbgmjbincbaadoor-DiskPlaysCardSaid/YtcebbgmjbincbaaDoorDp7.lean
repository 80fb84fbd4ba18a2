/- DiskPlays: the walk. -/
import Derived.Test.YtcebbgmjbincbaaDoorDp3
import Derived.Test.YtcebbgmjbincbaaDoorDp4
import Derived.Test.YtcebbgmjbincbaaDoorDp5
import Derived.Test.YtcebbgmjbincbaaDoorDp6
import Derived.Deep.DeepCutAuto
import Derived.Deep.CutBlock
import Derived.Deep.CutRange

namespace Go.Proofs.YtcebbgmjbincbaaDoor
open Go.RowKit Go.Lib
theorem dusedD {w : World} {L : List Nat} {db : Nat} {d : DSt} (h : Disk w L db d) : Calls Tryd.prog 19 #[.pointer (some ⟨db, 0, none⟩)] w fun e w' => e = .returned (.int .i64 (usedOf d.fs : Nat)) ∧ w' = w := by
  obtain ⟨mb, fl, h⟩ := h
  exact dused h
theorem dcountD {w : World} {L : List Nat} {db : Nat} {d : DSt} (h : Disk w L db d) : Calls Tryd.prog 18 #[.pointer (some ⟨db, 0, none⟩)] w fun e w' => e = .returned (.int .i64 (d.count : Nat)) ∧ w' = w := by
  obtain ⟨mb, fl, h⟩ := h
  exact dcount h
theorem read_len {d : DSt} (h : d.Ok) (n : List UInt8) : (d.read n).1.length ≤ d.room := by
  have := h.used
  unfold DSt.read
  split
  · simp
  · split
    · simp
    · rename_i f hf
      have := usedOf_le hf
      simp only []
      omega
theorem crash_zero (d : DSt) (hfew : d.fs.length ≤ 64) : d.crash (List.replicate 100 0) = ({ d with off := false } : DSt).crash [] := by
  have hn : ({ d with off := false } : DSt).names = d.names := rfl
  have hl : d.names.length ≤ 64 := by
    have h1 : d.names.length = d.fs.length := by simp [DSt.names]
    omega
  unfold DSt.crash
  rw [hn]
  have e : (d.fs.map fun f => (f.1, crashF (List.replicate 100 0) (d.names.idxOf f.1) f.2)) = d.fs.map fun f => (f.1, crashF [] (d.names.idxOf f.1) f.2) := by
    refine List.map_congr_left fun f _ => ?_
    have h1 : d.names.idxOf f.1 ≤ d.names.length := List.idxOf_le_length
    unfold crashF
    rw [List.getElem?_replicate, if_pos (by omega), List.getElem?_nil]
    have e1 : (min (max (0 : Int) 0) ((f.2.b.length - f.2.sure : Nat) : Int)).toNat = 0 := by omega
    simp only [e1]
  rw [e]
theorem mk100 (w : World) : ∃ C : Array Value, C.toList = (List.replicate 100 (0 : Int)).map (Value.int .i64) ∧ (Instr.makeSlice 34 (.int .i64 100) (.int .i64 100)).run Tryd.prog w = .ok (.slice (some ⟨w.heap.size, 0, none⟩) 100 100) (w.alloc (.cells C 3)) := by
  refine ⟨((List.replicate 100 (0 : Int)).map (Value.int .i64)).toArray, rfl, ?_⟩
  kernel_rfl

set_option maxRecDepth 1000000 in
set_option maxHeartbeats 40000000 in
theorem dplays (room : Int) (hroom : room ≤ 9223372036854775807) (za : Option Addr) (zc : Nat) (zl : List Ps) (w : World) (hg : (w).cell? ⟨0, 0, none⟩ = some (.iface 148 (.agg #[.pointer (some ⟨1, 28, none⟩)]))) (hz : PsIn w za zl) :
    Calls Tryd.prog 5 #[.int .i64 room, .slice za zl.length zc] w fun e w' => e = .returned (.bool true) ∧ Keeps [] w w' := by
  have HZ := Lib.hid hz
  have HGW := Lib.hid hg
  clear hz hg
  go_enter Tryd.func5, Tryd.ntmps5
  go_wp2_with fail
  refine (dknown w HGW.out).mono ?_
  rintro e w0 ⟨rfl, hk0⟩
  by_cases hlong : 60 < zl.length
  · have n0 : (60 : Int) < (zl.length : Int) := by omega
    go_wp2_with fail
    go_ret
    exact ⟨rfl, hk0⟩
  have n0 : ¬ ((60 : Int) < (zl.length : Int)) := by omega
  by_cases hr5 : 5000 < room
  · go_wp2_with fail
    go_ret
    exact ⟨rfl, hk0⟩
  go_wp2_with fail
  refine (dnew room hroom w0).mono ?_
  rintro e w1 ⟨db, L, rfl, hD, hk1, hL⟩
  have hrn := rnewR room w1 hD.ok
  have HRN := Lib.hid hrn
  clear hrn
  go_wp2_with fail
  refine HRN.out.mono ?_
  rintro e w2 ⟨rfl, hR, hk2⟩
  have hDp : DpS w w2 db w1.heap.size L [w1.heap.size] ⟨[], room.toNat, 0, -1, false⟩ 0 := by
    have hz0 := hk0.size
    have hz1 := hk1.size
    refine ⟨hD.keep0 hk2, hR, fun x hx hm => ?_, fun x hx => Nat.le_trans hz0 (hL x hx), fun x hx => by simp at hx; omega, (hk0.trans hk1).trans hk2, by show room.toNat ≤ 5000; omega, Nat.le_refl _⟩
    simp at hm
    have := hD.lt x hx
    omega
  have HDP := Lib.hid hDp
  clear hDp hD hR hk0 hk1 hk2 hL HRN n0 hroom
  generalize w1.heap.size = rb at *
  go_wp2_with fail
  go_loopw [7] (fun v wr => ∃ (i : Nat) (d : DSt) (L M : List Nat), v = .int .i64 (i : Int) ∧ i ≤ zl.length ∧ DpS w wr db rb L M d i) (fun v _ => 60 - (intOf v).toNat)
  case atStart => exact ⟨0, _, _, _, rfl, Nat.zero_le _, HDP.out⟩
  case round =>
    obtain ⟨i, d, L, M, rfl, hi, hDp⟩ := hrel
    clear HDP
    rcases (by omega : i = zl.length ∨ i < zl.length) with hie | hlt
    · have hDpo := hDp
      obtain ⟨fl, fa, c, hM, hA, hMeq, hok⟩ := hDp.R
      have hbc := hM.blk.cell
      have hbf := hM.blk.free
      have hbl := hM.blk.lt
      have n1 : ¬ ((i : Int) < (zl.length : Int)) := by omega
      have hks := (Keeps.refl [rb] wr).set (p := ⟨rb, 2, none⟩) (.inl (by simp)) (.bool false)
      have hB3 := (hM.blk.put 2 (.bool false)).eq (cs' := #[.slice fa fl.length c, .int .i64 (d.room : Nat), .bool false, .int .i64 d.halt, .int .i64 (d.count : Nat)]) (by simp)
      have hM3 := hM.own' (room' := d.room) (count' := d.count) (halt' := d.halt) (off' := false) hks hB3
      have HX := Lib.hid (And.intro hDpo (And.intro hA (And.intro hMeq (And.intro hok (And.intro hks hM3)))))
      clear hDpo hA hMeq hok hks hM3 hB3 hM hie
      go_upto_region 42 with (fail)
      generalize World.setCell wr _ _ = w3 at *
      clear hbc hbf hbl
      obtain ⟨C, hC, hmk⟩ := mk100 w3
      have hBC := Blk.fresh w3 3 C
      have hkA := (Keeps.refl [] w3).alloc (.cells C 3)
      have HD4 : Hid (Disk (World.alloc w3 (.cells C 3)) L db d ∧ Ref (World.alloc w3 (.cells C 3)) M rb { d with off := false } ∧ Keeps [] w (World.alloc w3 (.cells C 3)) ∧ Sl (World.alloc w3 (.cells C 3)) 1 (some ⟨w3.heap.size, 0, none⟩) 100 100 ((List.replicate 100 (0 : Int)).map (Value.int .i64)) ∧ w3.heap.size ∉ L ∧ w.heap.size ≤ w3.heap.size) := by
        obtain ⟨hDpo, hA, hMeq, hok, hks, hM3⟩ := HX.out
        have hrM := hDpo.R.mem
        have hD3 : Disk w3 L db d := hDpo.D.keep hks (fun x hx => by simp; rintro rfl; exact hDpo.lm _ hx hrM)
        have hk3 : Keeps [] w w3 := hDpo.kp.step hks (fun x hx => .inr (by simp at hx; subst hx; exact hDpo.mw _ hrM))
        have hR3 : Ref w3 M rb { d with off := false } := ⟨fl, fa, c, hM3, hA, hMeq, ⟨hok.used, hok.room, hok.few, hok.name, hok.sure, hok.most, hok.halt, hok.nodup⟩⟩
        have hSl := Sl.of_blk (n := 100) (sz := 1) hBC (by rw [← Array.length_toList, hC]; simp) (by decide) (fun u hu => by
          rw [hC] at hu
          obtain ⟨k, _, rfl⟩ := List.mem_map.1 hu
          rfl)
        rw [hC] at hSl
        exact ⟨hD3.keep0 hkA, hR3.keep0 hkA, hk3.trans hkA, hSl, fun hx => by have := hD3.lt _ hx; omega, hk3.size⟩
      have HX0 := HX
      clear hC hBC hkA HX
      go_wp2_with fail
      generalize World.alloc w3 _ = w4 at *
      generalize w3.heap.size = mb at *
      clear hmk
      obtain ⟨hD4, hR4, hk4, hSl4, hmL, hmw⟩ := HD4.out
      have hcr := Lib.hid (dcrash hD4 (List.replicate 100 0) (by simpa using hSl4) (fun ad e _ => by cases e; exact hmL))
      have H4 := Lib.hid (And.intro hR4 hk4)
      clear hD4 hR4 hk4 hSl4 hmL hmw HD4
      refine hcr.out.mono ?_
      rintro e w5 ⟨rfl, hD5, hk5⟩
      rw [crash_zero d HX0.out.1.D.ok.few] at hD5
      obtain ⟨dz, hdz⟩ : ∃ dz, dz = ({ d with off := false } : DSt).crash [] := ⟨_, rfl⟩
      have hoz : dz.off = false := by rw [hdz]; rfl
      have hR5 : Ref w5 M rb { d with off := false } := H4.out.1.keep hk5 (fun x hx hm => HX0.out.1.lm x hm hx)
      have hrc := rcrash (ka := none) (kc := 0) hR5 [] (Sl.none _ 1) (by simp) (by rw [← hdz] at hD5 ⊢; exact hD5.ok)
      rw [← hdz] at hD5 hrc
      have HRC := Lib.hid hrc
      have H5 := Lib.hid (And.intro hD5 (And.intro hk5 hoz))
      clear hrc hD5 hk5 hR5 hdz hoz hcr
      go_wp2_with fail
      refine HRC.out.mono ?_
      rintro e w6 ⟨rfl, hR6, hk6⟩
      have hD6 := H5.out.1.keep hk6 (fun x hx hm => HX0.out.1.lm x hx hm)
      have hkw6 : Keeps [] w w6 := (H4.out.2.step H5.out.2.1 (fun x hx => .inr (HX0.out.1.lw x hx))).step hk6 (fun x hx => .inr (HX0.out.1.mw x hx))
      obtain ⟨fl6, fa6, c6, hM6, hA6, -, hok6⟩ := hR6
      have hfew6 := hA6.few hok6
      have hblk6 := hM6.blk
      have H6 := Lib.hid (And.intro hD6 (And.intro hkw6 (And.intro hM6 (And.intro hA6 hok6))))
      clear hD6 hkw6 hM6 hA6 hok6 hk6 HRC
      go_wp2_with fail
      go_loopw [15] (fun v wq => ∃ j : Nat, v = .int .i64 (j : Int) ∧ j ≤ fl6.length ∧ Keeps [] w6 wq) (fun v _ => fl6.length - (intOf v).toNat)
      case atStart => exact ⟨0, rfl, Nat.zero_le _, Keeps.refl _ _⟩
      case round =>
        obtain ⟨j, rfl, hj, hkj⟩ := hrel
        have hbj := hblk6.keep hkj (by simp)
        have hbc := hbj.cell
        have hbl := hbj.lt
        have HKJ := Lib.hid hkj
        clear hkj
        rcases (by omega : j = fl6.length ∨ j < fl6.length) with hje | hjl
        · have n2 : ¬ ((j : Int) < (fl6.length : Int)) := by omega
          clear hje
          go_wp2_with fail
          go_ret
          exact ⟨rfl, H6.out.2.1.trans HKJ.out⟩
        · have n2 : (j : Int) < (fl6.length : Int) := by omega
          have n3 : (0 : Int) ≤ (j : Int) := by omega
          obtain ⟨y, hy⟩ : ∃ y, fl6[j]? = some y := ⟨_, List.getElem?_eq_getElem hjl⟩
          have hMj := H6.out.2.2.1.keep0 HKJ.out
          obtain ⟨g, rfl, hgl, c0, -, -⟩ := hMj.cells hy
          have hget : mget y.n dz.fs = some y.f := H6.out.2.2.2.1.get (rfs_at hy)
          have hrd := dread (H6.out.1.keep0 HKJ.out) y.n
          rw [show dz.read y.n = (y.f.b, .ok) by simp [DSt.read, H5.out.2.2, hget]] at hrd
          have HRD := Lib.hid hrd
          have HY := Lib.hid (And.intro hy hMj)
          clear hy hMj hget hrd
          go_wp2_with fail
          refine HRD.out.mono ?_
          rintro e w8 ⟨bo, bc8, ev8, rfl, hE8, hO8, hk8⟩
          obtain rfl : ev8 = .nilIface := hE8
          have hM8 := HY.out.2.keep0 hk8
          have hb8 := hbj.keep hk8 (by simp)
          have hby := bytes_any bo y.ao bc8 y.c y.f.b y.f.b w8 hO8.rb (hM8.file y (List.mem_of_getElem? HY.out.1)).rb
          rw [show (y.f.b == y.f.b) = true by simp] at hby
          have HBY := Lib.hid hby
          obtain ⟨d1, -, dg⟩ := hM8.c12 HY.out.1
          have HK8 := Lib.hid hk8
          clear hbc hbl c0 hO8 hk8 hM8 hby hbj
          have hbc := hb8.cell
          have hbl := hb8.lt
          simp only [] at *
          go_wp2_with fail
          refine HBY.out.mono ?_
          rintro e w9 ⟨rfl, hw⟩
          obtain rfl := hw.symm
          have q3 : IntKind.i64.wrap ((j : Int) + 1) = j + 1 := IntWalk.i64_in _ (by omega)
          go_wp2_with fail
          go_roundw
          case rel => exact ⟨j + 1, by simp, by omega, HKJ.out.trans HK8.out⟩
          case measure => simp [intOf]; omega
    have n1 : (i : Int) < (zl.length : Int) := by omega
    have n2 : (0 : Int) ≤ (i : Int) := by omega
    obtain ⟨x, hx⟩ : ∃ x, zl[i]? = some x := ⟨_, List.getElem?_eq_getElem hlt⟩
    obtain ⟨hxo, zb, zo, rfl, hz⟩ := HZ.out i x hx
    obtain ⟨wh, nn, nm, tn, b, ba, bc, keep, ka, kc⟩ := x
    obtain ⟨hnn, hrb, hkp⟩ := hxo
    simp only [] at hnn hrb hkp
    have HL := Lib.hid (fun j v hv => hDp.kp.cellSome (hz j v hv) (by simp) : ∀ j v, ([.int .i64 wh, .int .i64 nn, .string ⟨nm.toArray⟩, .string ⟨tn.toArray⟩, .slice ba b.length bc, .slice ka keep.length kc] : List Value)[j]? = some v → wr.cell? ⟨zb, zo + i * 6 + j, none⟩ = some v)
    clear hz hx
    have hS := Blk.fresh wr 48 ([.int .i64 wh, .int .i64 nn, .string ⟨nm.toArray⟩, .string ⟨tn.toArray⟩, .slice ba b.length bc, .slice ka keep.length kc] : List Value).toArray
    have hkS := (Keeps.refl [] wr).alloc (.cells ([.int .i64 wh, .int .i64 nn, .string ⟨nm.toArray⟩, .string ⟨tn.toArray⟩, .slice ba b.length bc, .slice ka keep.length kc] : List Value).toArray 48)
    have hDs := hDp.keep0 hkS
    have hsL : wr.heap.size ∉ L := fun hx => by have := hDp.D.lt _ hx; omega
    have hsM : wr.heap.size ∉ M := fun hx => by have := hDp.R.lt _ hx; omega
    have hsw : w.heap.size ≤ wr.heap.size := hDp.kp.size
    have H0 := Lib.hid (And.intro hDs (And.intro hsL (And.intro hsM (And.intro hrb hkp))))
    clear hkS hDp hDs hsL hsM hrb hkp
    go_upto_region 10 with (first
      | (refine wpList_load_run rfl _ _ rfl zb (zo + i * 6) rfl ([.int .i64 wh, .int .i64 nn, .string ⟨nm.toArray⟩, .string ⟨tn.toArray⟩, .slice ba b.length bc, .slice ka keep.length kc]) HL.out _ Tryd.underlying48 rfl sizePs ?_)
      | (refine wpList_store_fresh rfl rfl _ _ _ rfl _ rfl rfl _ rfl _ _ sizePs (by simp) rfl ?_))
    change Code.wp _ _ _ _ (World.alloc wr (.cells ([.int .i64 wh, .int .i64 nn, .string ⟨nm.toArray⟩, .string ⟨tn.toArray⟩, .slice ba b.length bc, .slice ka keep.length kc] : List Value).toArray 48))
    clear HL
    generalize World.alloc wr _ = wS at *
    generalize wr.heap.size = sb at *
    replace hS := hS.eq (cs' := #[.int .i64 wh, .int .i64 nn, .string ⟨nm.toArray⟩, .string ⟨tn.toArray⟩, .slice ba b.length bc, .slice ka keep.length kc]) rfl
    have hcS := hS.cell
    have hlS := hS.lt
    go_cut [63] (fun v wx => wx = wS ∧ (v = .bool true ∨ (v = .bool false ∧ b.length ≤ 300 ∧ nm.length ≤ 60 ∧ tn.length ≤ 60 ∧ keep.length ≤ 80)))
    case first =>
      by_cases h1 : 300 < b.length
      · have m1 : (300 : Int) < (b.length : Int) := by omega
        go_wp2_with fail
        go_meet
        exact ⟨rfl, .inl (by simp)⟩
      have m1 : ¬ ((300 : Int) < (b.length : Int)) := by omega
      by_cases h2 : 60 < nm.length
      · have m2 : (60 : Int) < (nm.length : Int) := by omega
        go_wp2_with fail
        go_meet
        exact ⟨rfl, .inl (by simp)⟩
      have m2 : ¬ ((60 : Int) < (nm.length : Int)) := by omega
      by_cases h3 : 60 < tn.length
      · have m3 : (60 : Int) < (tn.length : Int) := by omega
        go_wp2_with fail
        go_meet
        exact ⟨rfl, .inl (by simp)⟩
      have m3 : ¬ ((60 : Int) < (tn.length : Int)) := by omega
      by_cases h4 : 80 < keep.length
      · have m4 : (80 : Int) < (keep.length : Int) := by omega
        go_wp2_with fail
        go_meet
        exact ⟨rfl, .inl (by simp)⟩
      have m4 : ¬ ((80 : Int) < (keep.length : Int)) := by omega
      go_wp2_with fail
      go_meet
      exact ⟨rfl, .inr ⟨by simp, by omega, by omega, by omega, by omega⟩⟩
    case rest =>
    obtain ⟨hw, hv⟩ := hcut
    obtain rfl := hw.symm
    rcases hv with rfl | ⟨rfl, hb3, hn6, ht6, hk8⟩
    · go_wp2_with fail
      go_ret
      exact ⟨rfl, H0.out.1.kp⟩
    go_upto_block 2 with (fail)
    go_cut [9, 10] (fun v9 v10 wx => DpRel w db rb sb i #[.int .i64 wh, .int .i64 nn, .string ⟨nm.toArray⟩, .string ⟨tn.toArray⟩, .slice ba b.length bc, .slice ka keep.length kc] v9 v10 wx)
    case first =>
      rename_i J K hJ hK
      clear hcS hlS
      have hi60 : i < 60 := by omega
      by_cases hA : wh = 0 ∨ wh = 1 ∨ wh = 2
      · exact sw_A w wS db rb sb i L M d wh nn nm tn b ba ka bc kc keep H0.out.1 hS H0.out.2.1 H0.out.2.2.1 hsw H0.out.2.2.2.1 H0.out.2.2.2.2 hi60 hb3 hn6 ht6 hk8 hnn hA _ _ _ _ _ _ _ _ _ _ _ _ _ _ _ _ _ _ _ _ _ _ _ _ _ _ _ _ _ _ _ _ _ _ _ _ _ _ _ _ _ _ _ _ _ _ _ _ _ _ _ _ _ _ _ _ _ _ _ _ _ _ _ _ _ _ _ _ _ _ _ _ _ _ _ _ _ _ _ _ _ _ _ _ _ _ _ _ _ _ _ _ _ _ _ _ _ _ _ _ _ _ _ _ _ _ _ _ _ _ _ _ _ _ _ _ _ _ _ _ _ _ _ _ _ _ _ _ _ _ _ _ _ _ _ _ _ _ _ _ _ _ _ _ _ _ _ _ _ _ _ _ _ _ _ _ _ _ _ _ _ _ _ _ _ _ _ _ _ _ _ _ _ _ _ _ _ _ _ _ _ _ _ _ _ _ _ _ _ _ _ _ _ _ _ _ _ _ _ _ _ _ _ _ _ _ _ _ _ _ _ _ _ _ _ _ _ _ _ _ _ _ _ _ _ _ _ _ _ _ _ _ _ _ _ _ _ _ _ _ _ _ _ _ _ _ _ _ _ _ hJ hK (fun _ _ d _ _ h => by cases d <;> exact h)
      by_cases g3 : wh = 3
      · exact sw_B w wS db rb sb i L M d wh nn nm tn b ba ka bc kc keep H0.out.1 hS H0.out.2.1 H0.out.2.2.1 hsw H0.out.2.2.2.1 H0.out.2.2.2.2 hi60 hb3 hn6 ht6 hk8 hnn g3 _ _ _ _ _ _ _ _ _ _ _ _ _ _ _ _ _ _ _ _ _ _ _ _ _ _ _ _ _ _ _ _ _ _ _ _ _ _ _ _ _ _ _ _ _ _ _ _ _ _ _ _ _ _ _ _ _ _ _ _ _ _ _ _ _ _ _ _ _ _ _ _ _ _ _ _ _ _ _ _ _ _ _ _ _ _ _ _ _ _ _ _ _ _ _ _ _ _ _ _ _ _ _ _ _ _ _ _ _ _ _ _ _ _ _ _ _ _ _ _ _ _ _ _ _ _ _ _ _ _ _ _ _ _ _ _ _ _ _ _ _ _ _ _ _ _ _ _ _ _ _ _ _ _ _ _ _ _ _ _ _ _ _ _ _ _ _ _ _ _ _ _ _ _ _ _ _ _ _ _ _ _ _ _ _ _ _ _ _ _ _ _ _ _ _ _ _ _ _ _ _ _ _ _ _ _ _ _ _ _ _ _ _ _ _ _ _ _ _ _ _ _ _ _ _ _ _ _ _ _ _ _ _ _ _ _ _ _ _ _ _ _ _ _ _ _ _ _ _ _ hJ hK (fun _ _ d _ _ h => by cases d <;> exact h)
      by_cases g4 : wh = 4
      · exact sw_C w wS db rb sb i L M d wh nn nm tn b ba ka bc kc keep H0.out.1 hS H0.out.2.1 H0.out.2.2.1 hsw H0.out.2.2.2.1 H0.out.2.2.2.2 hi60 hb3 hn6 ht6 hk8 hnn g4 _ _ _ _ _ _ _ _ _ _ _ _ _ _ _ _ _ _ _ _ _ _ _ _ _ _ _ _ _ _ _ _ _ _ _ _ _ _ _ _ _ _ _ _ _ _ _ _ _ _ _ _ _ _ _ _ _ _ _ _ _ _ _ _ _ _ _ _ _ _ _ _ _ _ _ _ _ _ _ _ _ _ _ _ _ _ _ _ _ _ _ _ _ _ _ _ _ _ _ _ _ _ _ _ _ _ _ _ _ _ _ _ _ _ _ _ _ _ _ _ _ _ _ _ _ _ _ _ _ _ _ _ _ _ _ _ _ _ _ _ _ _ _ _ _ _ _ _ _ _ _ _ _ _ _ _ _ _ _ _ _ _ _ _ _ _ _ _ _ _ _ _ _ _ _ _ _ _ _ _ _ _ _ _ _ _ _ _ _ _ _ _ _ _ _ _ _ _ _ _ _ _ _ _ _ _ _ _ _ _ _ _ _ _ _ _ _ _ _ _ _ _ _ _ _ _ _ _ _ _ _ _ _ _ _ _ _ _ _ _ _ _ _ _ _ _ _ _ _ _ hJ hK (fun _ _ d _ _ h => by cases d <;> exact h)
      by_cases g5 : wh = 5
      · exact sw_D w wS db rb sb i L M d wh nn nm tn b ba ka bc kc keep H0.out.1 hS H0.out.2.1 H0.out.2.2.1 hsw H0.out.2.2.2.1 H0.out.2.2.2.2 hi60 hb3 hn6 ht6 hk8 hnn g5 _ _ _ _ _ _ _ _ _ _ _ _ _ _ _ _ _ _ _ _ _ _ _ _ _ _ _ _ _ _ _ _ _ _ _ _ _ _ _ _ _ _ _ _ _ _ _ _ _ _ _ _ _ _ _ _ _ _ _ _ _ _ _ _ _ _ _ _ _ _ _ _ _ _ _ _ _ _ _ _ _ _ _ _ _ _ _ _ _ _ _ _ _ _ _ _ _ _ _ _ _ _ _ _ _ _ _ _ _ _ _ _ _ _ _ _ _ _ _ _ _ _ _ _ _ _ _ _ _ _ _ _ _ _ _ _ _ _ _ _ _ _ _ _ _ _ _ _ _ _ _ _ _ _ _ _ _ _ _ _ _ _ _ _ _ _ _ _ _ _ _ _ _ _ _ _ _ _ _ _ _ _ _ _ _ _ _ _ _ _ _ _ _ _ _ _ _ _ _ _ _ _ _ _ _ _ _ _ _ _ _ _ _ _ _ _ _ _ _ _ _ _ _ _ _ _ _ _ _ _ _ _ _ _ _ _ _ _ _ _ _ _ _ _ _ _ _ _ _ _ hJ hK (fun _ _ d _ _ h => by cases d <;> exact h)
      by_cases g6 : wh = 6
      · exact sw_E w wS db rb sb i L M d wh nn nm tn b ba ka bc kc keep H0.out.1 hS H0.out.2.1 H0.out.2.2.1 hsw H0.out.2.2.2.1 H0.out.2.2.2.2 hi60 hb3 hn6 ht6 hk8 hnn g6 _ _ _ _ _ _ _ _ _ _ _ _ _ _ _ _ _ _ _ _ _ _ _ _ _ _ _ _ _ _ _ _ _ _ _ _ _ _ _ _ _ _ _ _ _ _ _ _ _ _ _ _ _ _ _ _ _ _ _ _ _ _ _ _ _ _ _ _ _ _ _ _ _ _ _ _ _ _ _ _ _ _ _ _ _ _ _ _ _ _ _ _ _ _ _ _ _ _ _ _ _ _ _ _ _ _ _ _ _ _ _ _ _ _ _ _ _ _ _ _ _ _ _ _ _ _ _ _ _ _ _ _ _ _ _ _ _ _ _ _ _ _ _ _ _ _ _ _ _ _ _ _ _ _ _ _ _ _ _ _ _ _ _ _ _ _ _ _ _ _ _ _ _ _ _ _ _ _ _ _ _ _ _ _ _ _ _ _ _ _ _ _ _ _ _ _ _ _ _ _ _ _ _ _ _ _ _ _ _ _ _ _ _ _ _ _ _ _ _ _ _ _ _ _ _ _ _ _ _ _ _ _ _ _ _ _ _ _ _ _ _ _ _ _ _ _ _ _ _ _ hJ hK (fun _ _ d _ _ h => by cases d <;> exact h)
      by_cases g7 : wh = 7
      · exact sw_F w wS db rb sb i L M d wh nn nm tn b ba ka bc kc keep H0.out.1 hS H0.out.2.1 H0.out.2.2.1 hsw H0.out.2.2.2.1 H0.out.2.2.2.2 hi60 hb3 hn6 ht6 hk8 hnn g7 _ _ _ _ _ _ _ _ _ _ _ _ _ _ _ _ _ _ _ _ _ _ _ _ _ _ _ _ _ _ _ _ _ _ _ _ _ _ _ _ _ _ _ _ _ _ _ _ _ _ _ _ _ _ _ _ _ _ _ _ _ _ _ _ _ _ _ _ _ _ _ _ _ _ _ _ _ _ _ _ _ _ _ _ _ _ _ _ _ _ _ _ _ _ _ _ _ _ _ _ _ _ _ _ _ _ _ _ _ _ _ _ _ _ _ _ _ _ _ _ _ _ _ _ _ _ _ _ _ _ _ _ _ _ _ _ _ _ _ _ _ _ _ _ _ _ _ _ _ _ _ _ _ _ _ _ _ _ _ _ _ _ _ _ _ _ _ _ _ _ _ _ _ _ _ _ _ _ _ _ _ _ _ _ _ _ _ _ _ _ _ _ _ _ _ _ _ _ _ _ _ _ _ _ _ _ _ _ _ _ _ _ _ _ _ _ _ _ _ _ _ _ _ _ _ _ _ _ _ _ _ _ _ _ _ _ _ _ _ _ _ _ _ _ _ _ _ _ _ _ hJ hK (fun _ _ d _ _ h => by cases d <;> exact h)
      exact sw_G w wS db rb sb i L M d wh nn nm tn b ba ka bc kc keep H0.out.1 hS H0.out.2.1 H0.out.2.2.1 hsw H0.out.2.2.2.1 H0.out.2.2.2.2 hi60 hb3 hn6 ht6 hk8 hnn (fun h => hA (.inl h)) (fun h => hA (.inr (.inl h))) (fun h => hA (.inr (.inr h))) g3 g4 g5 g6 g7 _ _ _ _ _ _ _ _ _ _ _ _ _ _ _ _ _ _ _ _ _ _ _ _ _ _ _ _ _ _ _ _ _ _ _ _ _ _ _ _ _ _ _ _ _ _ _ _ _ _ _ _ _ _ _ _ _ _ _ _ _ _ _ _ _ _ _ _ _ _ _ _ _ _ _ _ _ _ _ _ _ _ _ _ _ _ _ _ _ _ _ _ _ _ _ _ _ _ _ _ _ _ _ _ _ _ _ _ _ _ _ _ _ _ _ _ _ _ _ _ _ _ _ _ _ _ _ _ _ _ _ _ _ _ _ _ _ _ _ _ _ _ _ _ _ _ _ _ _ _ _ _ _ _ _ _ _ _ _ _ _ _ _ _ _ _ _ _ _ _ _ _ _ _ _ _ _ _ _ _ _ _ _ _ _ _ _ _ _ _ _ _ _ _ _ _ _ _ _ _ _ _ _ _ _ _ _ _ _ _ _ _ _ _ _ _ _ _ _ _ _ _ _ _ _ _ _ _ _ _ _ _ _ _ _ _ _ _ _ _ _ _ _ _ _ _ _ _ _ _ hJ hK (fun _ _ d _ _ h => by cases d <;> exact h)
    case rest =>
    as_aux_lemma =>
    generalize wc = w6 at *
    obtain ⟨r, d2, L2, M2, hv10, hE, hDp2, hS2, hs1, hs2⟩ := hcut
    subst hv10
    clear hcS hlS hS H0
    have hcb := (rcount hDp2.R).1
    have hln : d2.names.length ≤ 1000 := by
      have h1 : d2.names.length = d2.fs.length := by simp [DSt.names]
      have := hDp2.D.ok.few
      omega
    have hrm : d2.room ≤ 1000000 := by have := hDp2.room; omega
    obtain ⟨z, hz⟩ : ∃ z, z = r.cls := ⟨_, rfl⟩
    have hcl := fun W (hW : Keeps [] w6 W) => class_de ((hDp2.kp.trans hW).cellSome HGW.out (by simp)) (hE.keep0 hW)
    rw [← hz] at hcl ⊢
    have HCl := Lib.hid hcl
    have HD2 := Lib.hid hDp2
    have HS2 := Lib.hid (And.intro hS2 (And.intro hs1 hs2))
    clear hcl hz hE hDp2 hS2 hs1 hs2
    go_upto_region 34 with (fail)
    have hR0 : ∀ W : World, Keeps [] w6 W → ∀ q ∈ [((25 : Nat), fun w0 : World => w0.cell? ⟨rb, 4, none⟩ = some (.int .i64 (d2.count : Nat)))], q.2 W := fun W hW q hq => by
      simp only [List.mem_singleton] at hq
      subst hq
      exact hW.cellSome hcb (by simp)
    have hkd := (Keeps.refl [] w6).drew
    have hSw := hR0 _ hkd
    have HR := Lib.hid hR0
    clear hR0 hcb
    refine startU [((25 : Nat), fun w0 : World => w0.cell? ⟨rb, 4, none⟩ = some (.int .i64 (d2.count : Nat)))] (by kernel_rfl) ?_
    generalize w6.drew = wd at *
    refine takeU (i := 0) (v := ?_) rfl (by kernel_rfl) (fun _ _ _ h => h) (Or.inl ⟨by rfl, fun w0 hw0 => ?_⟩) (fun p hp _ => hSw p hp) ?_
    rotate_left
    · simp [Reads] at hw0
      go_simp
      try with_reducible rfl
    try go_simp
    refine takeU (i := 2) (v := ?_) rfl (by kernel_rfl) (fun _ _ _ h => h) (Or.inl ⟨by rfl, fun w0 hw0 => ?_⟩) (fun p hp _ => hSw p hp) ?_
    rotate_left
    · simp [Reads] at hw0
      go_simp
      try with_reducible rfl
    try go_simp
    clear hSw
    refine oneU (i := 1) rfl (by kernel_rfl) (fun K hK => ?_)
    rw [if_pos (show Region.wanted _ _ = true from rfl)]
    go_wp2_with fail
    refine (HCl.out _ hkd).mono ?_
    rintro e wa ⟨rfl, hka'⟩
    have hka := hkd.trans hka'
    try simp only []
    refine hK _ _ (fun q hq _ _ => HR.out _ hka q hq) ?_
    clear hK K
    try go_simp
    have hSw := HR.out _ hka
    refine takeU (i := 3) (v := ?_) rfl (by kernel_rfl) (fun _ _ _ h => h) (Or.inl ⟨by rfl, fun w0 hw0 => ?_⟩) (fun p hp _ => hSw p hp) ?_
    rotate_left
    · simp [Reads] at hw0
      go_simp
      try with_reducible rfl
    try go_simp
    refine takeU (i := 4) (v := ?_) rfl (by kernel_rfl) (fun _ _ _ h => h) (Or.inl ⟨by rfl, fun w0 hw0 => ?_⟩) (fun p hp _ => hSw p hp) ?_
    rotate_left
    · simp [Reads] at hw0
      go_simp
      try with_reducible rfl
    try go_simp
    refine takeU (i := 5) (v := ?_) rfl (by kernel_rfl) (fun _ _ _ h => h) (Or.inl ⟨by rfl, fun w0 hw0 => ?_⟩) (fun p hp _ => hSw p hp) ?_
    rotate_left
    · simp [Reads] at hw0
      go_simp
      try with_reducible rfl
    try go_simp
    refine takeU (i := 7) (v := ?_) rfl (by kernel_rfl) (fun _ _ _ h => h) (Or.inl ⟨by rfl, fun w0 hw0 => ?_⟩) (fun p hp _ => hSw p hp) ?_
    rotate_left
    · simp [Reads] at hw0
      go_simp
      try with_reducible rfl
    try go_simp
    clear hSw
    refine oneU (i := 6) rfl (by kernel_rfl) (fun K hK => ?_)
    rw [if_pos (show Region.wanted _ _ = true from rfl)]
    go_wp2_with fail
    refine (dlist (HD2.out.keep0 hka).D).mono ?_
    rintro e wb ⟨ao, c, rfl, hSl, _, hkb'⟩
    have hkb := hka.trans hkb'
    try simp only []
    refine hK _ _ (fun q hq _ _ => HR.out _ hkb q hq) ?_
    clear hK K
    try go_simp
    have hSw := HR.out _ hkb
    clear hSw
    refine oneU (i := 8) rfl (by kernel_rfl) (fun K hK => ?_)
    rw [if_pos (show Region.wanted _ _ = true from rfl)]
    go_wp2_with fail
    refine (rlist (HD2.out.keep0 hkb).R).mono ?_
    rintro e wx ⟨ao2, c2, rfl, hSl2, hkc'⟩
    have hkc := hkb.trans hkc'
    try simp only []
    refine hK _ _ (fun q hq _ _ => HR.out _ hkc q hq) ?_
    clear hK K
    try go_simp
    have hSw := HR.out _ hkc
    clear hSw
    refine oneU (i := 9) rfl (by kernel_rfl) (fun K hK => ?_)
    rw [if_pos (show Region.wanted _ _ = true from rfl)]
    go_wp2_with fail
    refine (texts_eq d2.names (hSl.keep0 hkc') hSl2 hln).mono ?_
    rintro e we ⟨rfl, hke'⟩
    have hke := hkc.trans hke'
    try simp only []
    refine hK _ _ (fun q hq _ _ => HR.out _ hke q hq) ?_
    clear hK K
    try go_simp
    have hSw := HR.out _ hke
    refine takeU (i := 10) (v := ?_) rfl (by kernel_rfl) (fun _ _ _ h => h) (Or.inl ⟨by rfl, fun w0 hw0 => ?_⟩) (fun p hp _ => hSw p hp) ?_
    rotate_left
    · simp [Reads] at hw0
      go_simp
      try with_reducible rfl
    try go_simp
    refine takeU (i := 11) (v := ?_) rfl (by kernel_rfl) (fun _ _ _ h => h) (Or.inl ⟨by rfl, fun w0 hw0 => ?_⟩) (fun p hp _ => hSw p hp) ?_
    rotate_left
    · simp [Reads] at hw0
      go_simp
      try with_reducible rfl
    try go_simp
    refine takeU (i := 12) (v := ?_) rfl (by kernel_rfl) (fun _ _ _ h => h) (Or.inl ⟨by rfl, fun w0 hw0 => ?_⟩) (fun p hp _ => hSw p hp) ?_
    rotate_left
    · simp [Reads] at hw0
      go_simp
      try with_reducible rfl
    try go_simp
    refine takeU (i := 13) (v := ?_) rfl (by kernel_rfl) (fun _ _ _ h => h) (Or.inl ⟨by rfl, fun w0 hw0 => ?_⟩) (fun p hp _ => hSw p hp) ?_
    rotate_left
    · simp [Reads] at hw0
      go_simp
      try with_reducible rfl
    try go_simp
    refine takeU (i := 15) (v := ?_) rfl (by kernel_rfl) (fun _ _ _ h => h) (Or.inl ⟨by rfl, fun w0 hw0 => ?_⟩) (fun p hp _ => hSw p hp) ?_
    rotate_left
    · simp [Reads] at hw0
      go_simp
      try with_reducible rfl
    try go_simp
    clear hSw
    refine oneU (i := 14) rfl (by kernel_rfl) (fun K hK => ?_)
    rw [if_pos (show Region.wanted _ _ = true from rfl)]
    go_wp2_with fail
    refine (dusedD (HD2.out.keep0 hke).D).mono ?_
    rintro e wf ⟨rfl, hw⟩
    obtain rfl := hw.symm
    try simp only []
    refine hK _ _ (fun q hq _ _ => HR.out _ hke q hq) ?_
    clear hK K
    try go_simp
    have hSw := HR.out _ hke
    clear hSw
    refine oneU (i := 16) rfl (by kernel_rfl) (fun K hK => ?_)
    rw [if_pos (show Region.wanted _ _ = true from rfl)]
    go_wp2_with fail
    refine (rusedR (HD2.out.keep0 hke).R hrm).mono ?_
    rintro e wf ⟨rfl, hw⟩
    obtain rfl := hw.symm
    try simp only []
    refine hK _ _ (fun q hq _ _ => HR.out _ hke q hq) ?_
    clear hK K
    try go_simp
    have hSw := HR.out _ hke
    refine takeU (i := 17) (v := ?_) rfl (by kernel_rfl) (fun _ _ _ h => h) (Or.inl ⟨by rfl, fun w0 hw0 => ?_⟩) (fun p hp _ => hSw p hp) ?_
    rotate_left
    · simp [Reads] at hw0
      go_simp
      try with_reducible rfl
    try go_simp
    refine takeU (i := 18) (v := ?_) rfl (by kernel_rfl) (fun _ _ _ h => h) (Or.inl ⟨by rfl, fun w0 hw0 => ?_⟩) (fun p hp _ => hSw p hp) ?_
    rotate_left
    · simp [Reads] at hw0
      go_simp
      try with_reducible rfl
    try go_simp
    refine takeU (i := 19) (v := ?_) rfl (by kernel_rfl) (fun _ _ _ h => h) (Or.inl ⟨by rfl, fun w0 hw0 => ?_⟩) (fun p hp _ => hSw p hp) ?_
    rotate_left
    · simp [Reads] at hw0
      go_simp
      try with_reducible rfl
    try go_simp
    refine takeU (i := 20) (v := ?_) rfl (by kernel_rfl) (fun _ _ _ h => h) (Or.inl ⟨by rfl, fun w0 hw0 => ?_⟩) (fun p hp _ => hSw p hp) ?_
    rotate_left
    · simp [Reads] at hw0
      go_simp
      try with_reducible rfl
    try go_simp
    refine takeU (i := 22) (v := ?_) rfl (by kernel_rfl) (fun _ _ _ h => h) (Or.inl ⟨by rfl, fun w0 hw0 => ?_⟩) (fun p hp _ => hSw p hp) ?_
    rotate_left
    · simp [Reads] at hw0
      go_simp
      try with_reducible rfl
    try go_simp
    refine takeU (i := 23) (v := ?_) rfl (by kernel_rfl) (fun _ _ _ h => h) (Or.inl ⟨by rfl, fun w0 hw0 => ?_⟩) (fun p hp _ => hSw p hp) ?_
    rotate_left
    · simp [Reads] at hw0
      go_simp
      try with_reducible rfl
    try go_simp
    refine takeU (i := 24) (v := ?_) rfl (by kernel_rfl) (fun _ _ _ h => h) (Or.inl ⟨by rfl, fun w0 hw0 => ?_⟩) (fun p hp _ => hSw p hp) ?_
    rotate_left
    · simp [Reads] at hw0
      go_simp
      try with_reducible rfl
    try go_simp
    refine takeU (i := 25) (v := ?_) rfl (by kernel_rfl) (fun _ _ _ h => h) (Or.inl ⟨by rfl, fun w0 hw0 => ?_⟩) (fun p hp _ => hSw p hp) ?_
    rotate_left
    · simp [Reads] at hw0
      go_simp
      try with_reducible rfl
    try go_simp
    clear hSw
    refine oneU (i := 21) rfl (by kernel_rfl) (fun K hK => ?_)
    rw [if_pos (show Region.wanted _ _ = true from rfl)]
    go_wp2_with fail
    refine (dcountD (HD2.out.keep0 hke).D).mono ?_
    rintro e wf ⟨rfl, hw⟩
    obtain rfl := hw.symm
    try simp only []
    refine hK _ _ (fun q hq _ _ => HR.out _ hke q hq) ?_
    clear hK K
    try go_simp
    have hSw := HR.out _ hke
    refine takeU (i := 26) (v := ?_) rfl (by kernel_rfl) (fun _ _ _ h => h) (Or.inl ⟨by rfl, fun w0 hw0 => ?_⟩) (fun p hp _ => hSw p hp) ?_
    rotate_left
    · simp [Reads] at hw0
      go_simp
      try with_reducible rfl
    try go_simp
    refine takeU (i := 27) (v := ?_) rfl (by kernel_rfl) (fun _ _ _ h => h) (Or.inl ⟨by rfl, fun w0 hw0 => ?_⟩) (fun p hp _ => hSw p hp) ?_
    rotate_left
    · simp [Reads] at hw0
      go_simp
      try with_reducible rfl
    try go_simp
    clear hSw HR
    refine doneU (by kernel_rfl) ?_
    have hDe := HD2.out.keep0 hke
    have hSe := HS2.out.1.keep hke (by simp)
    have HDe := Lib.hid hDe
    clear hDe HCl HD2 hSl hSl2 hka' hkb' hkc' hke' hka hkb hkc hkd
    have hcS := hSe.cell
    have hlS := hSe.lt
    go_wp2_with fail
    have hrl := read_len HDe.out.D.ok nm
    have hrl5 : (d2.read nm).1.length ≤ 5000 := by have := HDe.out.room; omega
    obtain ⟨⟨rdb, rdr⟩, hrd⟩ : ∃ p, p = d2.read nm := ⟨_, rfl⟩
    have hRd := dread HDe.out.D nm
    have hRr := fun W (hW : Keeps [] we W) => rreadR (HDe.out.keep0 hW).R nm
    rw [← hrd] at hRd hrl5
    simp only [← hrd] at hRr
    have HRr := Lib.hid hRr
    clear hrd hrl hRr
    refine hRd.mono ?_
    rintro e w9 ⟨bo, bc2, ev2, rfl, hE2, hO9, hk9⟩
    simp only [] at hrl5
    have hSe9 := hSe.keep hk9 (by simp)
    have H9 := Lib.hid (And.intro hE2 (And.intro hO9 hk9))
    clear hcS hlS hE2 hO9 hk9 hRd
    have hcS := hSe9.cell
    have hlS := hSe9.lt
    go_wp2_with fail
    refine (HRr.out _ H9.out.2.2).mono ?_
    rintro e w10 ⟨co, cc, rfl, hO10, hk10⟩
    have hk910 := H9.out.2.2.trans hk10
    have hDf := HDe.out.keep0 hk910
    have hcl2 := Lib.hid (class_de (hDf.kp.cellSome HGW.out (by simp)) (H9.out.1.keep0 hk10))
    have hOb := (OwnG.of H9.out.2.1).keep0 hk10
    have HDf := Lib.hid (And.intro hDf (And.intro hO10 (And.intro hOb hk10)))
    clear hcS hlS hSe9 hSe hDf hO10 hOb
    go_wp2_with fail
    refine hcl2.out.mono ?_
    rintro e w11 ⟨rfl, hk11⟩
    have hby := bytes_any bo co bc2 cc rdb rdb w11 (HDf.out.2.2.1.keep0 hk11).rb (HDf.out.2.1.keep0 hk11).rb
    rw [show (rdb == rdb) = true by simp] at hby
    have hby := Lib.hid hby
    have HK11 := Lib.hid hk11
    clear hk11 hk910 hcl2 hk10
    simp only []
    go_wp2_with fail
    refine hby.out.mono ?_
    rintro e w12 ⟨rfl, hw⟩
    obtain rfl := hw.symm
    have hsp := Lib.hid (spoil_own bo bc2 rdb (HDf.out.2.2.1.keep0 HK11.out) (by omega))
    go_wp2_with fail
    refine hsp.out.mono ?_
    rintro e w13 ⟨rfl, hk13⟩
    have HK13 := Lib.hid hk13
    clear hk13
    have qi : IntKind.i64.wrap ((i : Int) + 1) = i + 1 := IntWalk.i64_in _ (by omega)
    go_wp2_with fail
    go_roundw
    case rel =>
      refine ⟨i + 1, d2, L2, M2, by simp, by omega, (HDf.out.1.keep0 HK11.out).keep HK13.out (fun x hx => ?_)⟩
      have h1 := (H9.out.2.1.lt x hx).1
      have h2 := HDe.out.kp.size
      exact ⟨by omega, fun h => by have := HDe.out.D.lt x h; omega, fun h => by have := HDe.out.R.lt x h; omega⟩
    case measure => simp [intOf]; omega
end Go.Proofs.YtcebbgmjbincbaaDoor
