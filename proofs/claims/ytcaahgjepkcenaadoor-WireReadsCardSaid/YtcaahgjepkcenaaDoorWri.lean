/- WireReads: the walk. -/
import Derived.Test.YtcaahgjepkcenaaDoorWre
import Derived.Test.YtcaahgjepkcenaaDoorWrf
import Derived.Test.YtcaahgjepkcenaaDoorWrg
import Derived.Test.YtcaahgjepkcenaaDoorWz
import Derived.Test.YtcaahgjepkcenaaDoorWk
import Derived.Test.YtcaahgjepkcenaaDoorWh

namespace Go.Proofs.YtcaahgjepkcenaaDoor
open Go.RowKit Go.Lib

set_option maxRecDepth 100000 in
set_option maxHeartbeats 1000000 in
theorem reads_walk (ao : Option Addr) (c : Nat) (l : List UInt8) (w : World) (hg : (w).cell? ⟨0, 0, none⟩ = some (.iface 153 (.agg #[.pointer (some ⟨2, 27, none⟩)]))) (h : Rb w ao c l) :
    Calls Tryd.prog 8 #[.slice ao l.length c] w fun e w' => e = .returned (.bool true) ∧ Keeps [] w w' := by
  have HG := Lib.hid hg
  have H := Lib.hid h
  go_enter Tryd.func8, Tryd.ntmps8
  go_wp2_with fail
  refine (wknown w hg).mono ?_
  rintro e w0 ⟨rfl, hk0⟩
  clear hg h
  by_cases h3 : 3000 < l.length
  · have n1 : (3000 : Int) < (l.length : Int) := by omega
    go_wp2_with fail
    go_ret
    exact ⟨rfl, hk0⟩
  have n1 : ¬ ((3000 : Int) < (l.length : Int)) := by omega
  go_wp2_with fail
  clear n1
  -- Uint
  have U1 := Lib.hid (uint_any ao c l w0 (H.out.keep0 hk0))
  have U2 := Lib.hid fun W (hk : Keeps [] w W) => uintR_any ao c l W (H.out.keep0 hk)
  have V1 := Lib.hid fun W (hk : Keeps [] w W) => int_any ao c l W (H.out.keep0 hk)
  have V2 := Lib.hid fun W (hk : Keeps [] w W) => intR_any ao c l W (H.out.keep0 hk)
  unfold docI at V2
  dsimp only at V2
  generalize unzig (rdU 0 0 l).1 = z at *
  generalize rdU 0 0 l = u at *
  obtain ⟨u, n, f⟩ := u
  dsimp only at U1 U2 V1 V2
  refine U1.out.mono ?_
  rintro e w1 ⟨ev, rfl, hE, -, hk1⟩
  have hk01 := hk0.trans hk1
  clear U1 hk0 hk1
  go_wp2_with fail
  refine (U2.out w1 hk01).mono ?_
  rintro e w' ⟨rfl, hw⟩
  obtain rfl := hw.symm
  clear hw U2
  go_wp2_with fail
  refine (class_any ev f w1 (hk01.cellSome HG.out (by simp)) hE).mono ?_
  rintro e w2 ⟨rfl, hk2⟩
  have hk02 := hk01.trans hk2
  clear hE hk01 hk2
  go_wp2_with fail
  -- Int
  refine (V1.out w2 hk02).mono ?_
  rintro e w3 ⟨ev, rfl, hE, -, hk3⟩
  have hk03 := hk02.trans hk3
  clear V1 hk02 hk3
  go_wp2_with fail
  refine (V2.out w3 hk03).mono ?_
  rintro e w' ⟨rfl, hw⟩
  obtain rfl := hw.symm
  clear hw V2
  go_wp2_with fail
  refine (class_any ev f w3 (hk03.cellSome HG.out (by simp)) hE).mono ?_
  rintro e w4 ⟨rfl, hk4⟩
  have hk04 := hk03.trans hk4
  clear hE hk03 hk4
  go_wp2_with fail
  -- Text
  have U1 := Lib.hid (text_any ao c l w4 (H.out.keep0 hk04))
  have U2 := Lib.hid fun W (hk : Keeps [] w W) => textR_any ao c l W (H.out.keep0 hk)
  generalize rdT l = u at *
  obtain ⟨s, n2, f2⟩ := u
  dsimp only at U1 U2
  refine U1.out.mono ?_
  rintro e w5 ⟨ev, rfl, hE, hk5⟩
  have hk05 := hk04.trans hk5
  clear U1 hk04 hk5
  go_wp2_with fail
  refine (U2.out w5 hk05).mono ?_
  rintro e w' ⟨rfl, hw⟩
  obtain rfl := hw.symm
  clear hw U2
  go_wp2_with fail
  refine (class_any ev f2 w5 (hk05.cellSome HG.out (by simp)) hE.is).mono ?_
  rintro e w6 ⟨rfl, hk6⟩
  have hk06 := hk05.trans hk6
  clear hE hk05 hk6
  go_wp2_with fail
  -- Row
  have U1 := row_any0 ao c l w6 (H.out.keep0 hk06) (by omega)
  rw [rowP_doc] at U1
  have U2 := fun W (hk : Keeps [] w W) => rowR_any ao c l W (H.out.keep0 hk) (by omega)
  generalize docR l = u at *
  obtain ⟨vs, n3, f3⟩ := u
  dsimp only at U1 U2
  have HU2 := Lib.hid U2
  clear U2
  refine U1.mono ?_
  rintro e w7 ⟨bo, d, ev, rfl, hV, hE, hk7⟩
  have hk07 := hk06.trans hk7
  clear U1 hk06 hk7
  go_wp2_with fail
  refine (HU2.out w7 hk07).mono ?_
  rintro e w8 ⟨bo2, d2, rfl, hV2, hk8⟩
  have hV8 := hV.keep0 hk8
  have hE8 := hE.keep hk8
  have hk08 := hk07.trans hk8
  clear hV hE hk07 hk8 HU2
  go_wp2_with fail
  refine (values_eq bo bo2 d d2 vs w8 hV8 hV2).mono ?_
  rintro e w9 ⟨rfl, hk9⟩
  have hE9 := hE8.keep hk9
  have hk09 := hk08.trans hk9
  clear hV8 hV2 hE8 hk08 hk9
  go_wp2_with fail
  refine (class_any ev f3 w9 (hk09.cellSome HG.out (by simp)) hE9.is).mono ?_
  rintro e w10 ⟨rfl, hk10⟩
  have hk010 := hk09.trans hk10
  clear hE9 hk09 hk10
  go_wp2_with fail
  -- Entry
  obtain ⟨u, hu⟩ : ∃ u, docE l = u := ⟨_, rfl⟩
  have U2 := fun W (hk : Keeps [] w W) => entryR_any ao c l W (H.out.keep0 hk) (by omega)
  rw [hu] at U2
  obtain ⟨x, n4, f4⟩ := u
  have U1 := entry_any0 ao c l w10 (H.out.keep0 hk010) (by omega) x n4 f4 (by rw [entP_doc, hu])
  dsimp only at U2
  have HU2 := Lib.hid U2
  clear U2 hu
  obtain ⟨tm, kd, cl, sq, s5⟩ := x
  dsimp only [Ent.cells] at *
  refine U1.mono ?_
  rintro e w11 ⟨ev, rfl, hE, hk11⟩
  have hk011 := hk010.trans hk11
  clear U1 hk010 hk11
  go_upto_region 22 with (fail)
  have hV := Blk.fresh w11 42 #[.int .u64 tm, .int .i64 kd, .int .u64 cl, .int .u64 sq, .string s5]
  have hkA := (Keeps.refl [] w11).alloc (.cells #[.int .u64 tm, .int .i64 kd, .int .u64 cl, .int .u64 sq, .string s5] 42)
  have hE12 := hE.keep hkA
  have hk012 := hk011.trans hkA
  clear hE hk011 hkA
  generalize World.alloc w11 _ = w12 at *
  generalize w11.heap.size = vb at *
  go_wp2_with fail
  refine (HU2.out w12 hk012).mono ?_
  rintro e w13 ⟨rfl, hk13⟩
  have hV13 := hV.keep hk13 (by simp)
  have hE13 := hE12.keep hk13
  have hk013 := hk012.trans hk13
  clear hV hE12 hk012 hk13 HU2
  go_upto_region 23 with (fail)
  have hX := Blk.fresh w13 42 #[.int .u64 tm, .int .i64 kd, .int .u64 cl, .int .u64 sq, .string s5]
  have hkA := (Keeps.refl [] w13).alloc (.cells #[.int .u64 tm, .int .i64 kd, .int .u64 cl, .int .u64 sq, .string s5] 42)
  have hV14 := hV13.keep hkA (by simp)
  have hE14 := hE13.keep hkA
  have hk014 := hk013.trans hkA
  clear hV13 hE13 hk013 hkA
  generalize World.alloc w13 _ = w14 at *
  generalize w13.heap.size = xb at *
  have hcX := hX.cell
  have hlX := hX.lt
  have hcV := hV14.cell
  have hlV := hV14.lt
  go_wp2_with fail
  refine (class_any ev f4 w14 (hk014.cellSome HG.out (by simp)) hE14.is).mono ?_
  rintro e w15 ⟨rfl, hk15⟩
  have hk015 := hk014.trans hk15
  clear hE14 hk014 hk15 hcX hlX hcV hlV hX hV14
  go_wp2_with fail
  -- Unframe
  have U1 := unframe_any ao c l w15 (H.out.keep0 hk015)
  have U2 := fun W (hk : Keeps [] w W) => unframeR_any ao c l W (H.out.keep0 hk)
  generalize unfr l = u at *
  obtain ⟨p, n5, f5⟩ := u
  dsimp only at U1 U2
  have HU2 := Lib.hid U2
  clear U2
  refine U1.mono ?_
  rintro e w16 ⟨bo, d, ev, rfl, hB, hE, hk16⟩
  have hk016 := hk015.trans hk16
  clear U1 hk015 hk16
  go_wp2_with fail
  refine (HU2.out w16 hk016).mono ?_
  rintro e w17 ⟨bo2, d2, rfl, hB2, hk17⟩
  have hB17 := hB.keep0 hk17
  have hE17 := hE.keep hk17
  have hk017 := hk016.trans hk17
  clear hB hE hk016 hk17 HU2
  go_wp2_with fail
  refine (bytes_any bo bo2 d d2 p p w17 hB17 hB2).mono ?_
  rintro e w' ⟨rfl, hw⟩
  obtain rfl := hw.symm
  clear hw hB17 hB2
  go_wp2_with fail
  refine (class_any ev f5 w17 (hk017.cellSome HG.out (by simp)) hE17.is).mono ?_
  rintro e w18 ⟨rfl, hk18⟩
  go_wp2_with fail
  go_ret
  exact ⟨rfl, hk017.trans hk18⟩
end Go.Proofs.YtcaahgjepkcenaaDoor
