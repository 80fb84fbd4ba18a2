/- The document's disk beside the plain disk: List, Used, Read, Halt, New; texts that are alike. -/
import Derived.Test.YtcebbgmjbincbaaDoorRka

namespace Go.Proofs.YtcebbgmjbincbaaDoor
open Go.RowKit Go.Lib
theorem infoT : ∃ i z, Tryd.prog.info? 9 = some i ∧ i.zero = some z ∧ i.size = 1 ∧ i.bytes = 16 ∧ z.cells.size = 1 := by
  have h : (Tryd.prog.info? 9).map (fun i => (i.size, i.bytes, (i.zero.map fun z => z.cells.size))) = some (1, 16, some 1) := by kernel_rfl
  obtain ⟨i, hi, hx⟩ := Option.map_eq_some_iff.1 h
  simp only [Prod.mk.injEq] at hx
  obtain ⟨z, hz, hc⟩ := Option.map_eq_some_iff.1 hx.2.2
  exact ⟨i, z, hi, hz, hx.1, hx.2.1, hc⟩
theorem encs_one (l : List (List UInt8)) : ∀ u ∈ l.map encStr, u.oneCell' = true := by
  intro u hu
  obtain ⟨x, _, rfl⟩ := List.mem_map.1 hu
  rfl
theorem encs_at {l : List (List UInt8)} {i : Nat} {n : List UInt8} (h : l[i]? = some n) : (l.map encStr)[i]? = some (.string ⟨n.toArray⟩) := by
  rw [List.getElem?_map, h]
  rfl
set_option maxRecDepth 100000 in
set_option maxHeartbeats 4000000 in
theorem texts_eq {w : World} {ao bo : Option Addr} {c e : Nat} (l : List (List UInt8)) (h : Sl w 1 ao l.length c (l.map encStr)) (h' : Sl w 1 bo l.length e (l.map encStr)) (hl : l.length ≤ 1000) :
    Calls Tryd.prog 32 #[.slice ao l.length c, .slice bo l.length e] w fun e w' => e = .returned (.bool true) ∧ Keeps [] w w' := by
  have H := Lib.hid (And.intro h h')
  clear h h'
  go_enter Tryd.func32, Tryd.ntmps32
  go_wp2_with fail
  go_loopw [5] (fun v wr => ∃ i : Nat, v = .int .i64 (i : Int) ∧ i ≤ l.length ∧ Keeps [] w wr) (fun v _ => l.length - (intOf v).toNat)
  case atStart => exact ⟨0, rfl, Nat.zero_le _, Keeps.refl _ _⟩
  case round =>
    obtain ⟨i, rfl, hi, hk⟩ := hrel
    rcases (by omega : i = l.length ∨ i < l.length) with hie | hil
    · have n1 : ¬ ((i : Int) < (l.length : Int)) := by omega
      have HK := Lib.hid hk
      clear hie hk
      go_wp2_with fail
      go_ret
      exact ⟨rfl, HK.out⟩
    · have n1 : (i : Int) < (l.length : Int) := by omega
      have n2 : (0 : Int) ≤ (i : Int) := by omega
      have q1 : IntKind.i64.wrap ((i : Int) + 1) = i + 1 := IntWalk.i64_in _ (by omega)
      obtain ⟨n, hn⟩ : ∃ n, l[i]? = some n := ⟨_, List.getElem?_eq_getElem hil⟩
      have h1 := H.out.1.keep0 hk
      have h2 := H.out.2.keep0 hk
      have hc1 := h1.cap
      have hc2 := h2.cap
      obtain ⟨b1, o1, rfl⟩ := h1.at (by omega)
      obtain ⟨b2, o2, rfl⟩ := h2.at (by omega)
      have d1 : wr.cell? ⟨b1, o1 + i, none⟩ = some (.string ⟨n.toArray⟩) := by
        have := h1.cells rfl i _ (encs_at hn)
        rwa [addr_add rfl] at this
      have d2 : wr.cell? ⟨b2, o2 + i, none⟩ = some (.string ⟨n.toArray⟩) := by
        have := h2.cells rfl i _ (encs_at hn)
        rwa [addr_add rfl] at this
      have HK := Lib.hid hk
      clear hn h1 h2 hk
      go_upto_region 6 with (fail)
      go_quiet (fail)
      go_wp2_with fail
      go_roundw
      case rel => exact ⟨i + 1, by simp, by omega, HK.out.drewN _⟩
      case measure => simp [intOf]; omega
section
variable {w w' : World} {rb room count c i g : Nat} {halt : Int} {off : Bool} {fl : List RfM} {fa : Option Addr} {L : List Nat} {x x' : RfM} {n : List UInt8} {d : DSt}
def ListPost (w : World) (ns : List (List UInt8)) (e : Ending) (w' : World) : Prop := ∃ ao c, e = .returned (.slice ao ns.length c) ∧ Sl w' 1 ao ns.length c (ns.map encStr) ∧ Keeps [] w w'
set_option maxRecDepth 100000 in
set_option maxHeartbeats 4000000 in
theorem rlistM (h : RM w rb room count halt off fl fa c) (hm : fl.length ≤ 1000) :
    Calls Tryd.prog 34 #[.pointer (some ⟨rb, 0, none⟩)] w (ListPost w (fl.map (·.n))) := by
  obtain ⟨iT, zT, hiT, hzT, hsT, hbT, hcT⟩ := infoT
  have H := Lib.hid h
  have hblk := h.blk
  clear h
  go_enter Tryd.func34, Tryd.ntmps34
  go_wp2_with fail
  go_loopw [3, 4] (fun v3 v wr => ∃ (k : Nat) (ao : Option Addr) (c' : Nat), v3 = .slice ao k c' ∧ v = .int .i64 (k : Int) ∧ k ≤ fl.length ∧ wr.ownsRow w.heap.size 9 1 (.slice ao k c') k (((fl.map (·.n)).take k).map encStr) ∧ Keeps [] w wr) (fun _ v _ => fl.length - (intOf v).toNat)
  case atStart => exact ⟨0, none, 0, rfl, rfl, Nat.zero_le _, World.ownsRow_nil _ _ _ _, Keeps.refl _ _⟩
  case round =>
    obtain ⟨k, ao, c', rfl, rfl, hk, hO, hkw⟩ := hrel
    have hb := hblk.keep hkw (by simp)
    have hbc := hb.cell
    have hbl := hb.lt
    rcases (by omega : k = fl.length ∨ k < fl.length) with hke | hkl
    · have n1 : ¬ ((k : Int) < (fl.length : Int)) := by omega
      have hfin : ListPost w (fl.map (·.n)) (.returned (.slice ao k c')) wr := by
        have := own_read hO (encs_one _)
        rw [List.take_of_length_le (by simp; omega)] at this
        exact ⟨ao, c', by rw [List.length_map, hke], by rw [List.length_map, ← hke]; exact this, hkw⟩
      have HF := Lib.hid hfin
      clear hke hfin hO hkw
      go_wp2_with fail
      go_ret
      exact HF.out
    · have n1 : (k : Int) < (fl.length : Int) := by omega
      have n2 : (0 : Int) ≤ (k : Int) := by omega
      have q1 : IntKind.i64.wrap ((k : Int) + 1) = k + 1 := IntWalk.i64_in _ (by omega)
      obtain ⟨y, hy⟩ : ∃ y, fl[k]? = some y := ⟨_, List.getElem?_eq_getElem hkl⟩
      obtain ⟨g, rfl, hg, c0, -, -⟩ := (H.out.keep0 hkw).cells hy
      have hkA := (Keeps.refl [] wr).alloc (.cells #[.string ⟨y.n.toArray⟩] 9)
      have hOA := own_keep hO hkA (by simp)
      have hsrc := (Sl.of_blk (n := 1) (sz := 1) (Blk.fresh wr 9 #[.string ⟨y.n.toArray⟩]) rfl (by decide) (fun u hu => by simp at hu; subst hu; rfl)).src Tryd.underlying57
      have hww := hkw.size
      have HY := Lib.hid (And.intro hy (And.intro hkw hkA))
      have HOL := Lib.hid (own_lt hO)
      clear hy hkw hkA hO
      go_upto_region 4 with (at_builtin; refine wpList_append_by _ rfl _ _ 57 57 rfl w.heap.size 9 iT zT 1 16 Tryd.underlying57 hiT hzT hsT hbT hcT ao _ c' _ rfl hOA _ rfl 1 _ hsrc (by unfold maxLen; omega) (by omega) (by simp; omega) ?_; intro a5 c5 w5 hO5 hk5 hb5)
      have hk05 : Keeps [] w w5 := (HY.out.2.1.trans HY.out.2.2).step hk5 (fun x hx => .inr (HOL.out x hx).1)
      have hO6 : w5.ownsRow w.heap.size 9 1 (.slice a5 (k + 1) c5) (k + 1) (((fl.map (·.n)).take (k + 1)).map encStr) := by
        have e : ((fl.map (·.n)).take (k + 1)).map encStr = ((fl.map (·.n)).take k).map encStr ++ [.string ⟨y.n.toArray⟩] := by
          rw [List.take_add_one, List.getElem?_map, HY.out.1]
          simp
        rw [e]
        exact hO5
      have HF := Lib.hid (And.intro hO6 hk05)
      clear hO5 hk5 hb5 hO6 hk05 hsrc hOA c0 hbc
      go_wp2_with fail
      go_roundw
      case rel => exact ⟨k + 1, a5, c5, rfl, by simp, by omega, HF.out.1, HF.out.2⟩
      case measure => simp [intOf]; omega
theorem rlist (h : Ref w L rb d) : Calls Tryd.prog 34 #[.pointer (some ⟨rb, 0, none⟩)] w (ListPost w d.names) := by
  obtain ⟨fl, fa, c, hM, hA, rfl, hok⟩ := h
  have hfew := hA.few hok
  have hn : d.names = fl.map (·.n) := hA.names.trans (by simp [rfs, RfM.kv])
  rw [hn]
  exact rlistM hM (by omega)
theorem rusedR (h : Ref w L rb d) (hr : d.room ≤ 1000000) : Calls Tryd.prog 35 #[.pointer (some ⟨rb, 0, none⟩)] w fun e w' => e = .returned (.int .i64 (usedOf d.fs : Nat)) ∧ w' = w := by
  obtain ⟨fl, fa, c, hM, hA, rfl, hok⟩ := h
  have hfew := hA.few hok
  have hu := hok.used
  rw [← hA.used] at hu ⊢
  exact rused hM (by omega) (by omega)
theorem rcount (h : Ref w L rb d) : w.cell? ⟨rb, 4, none⟩ = some (.int .i64 (d.count : Nat)) ∧ rb < w.heap.size := by
  obtain ⟨fl, fa, c, hM, hA, rfl, hok⟩ := h
  exact ⟨hM.blk.cell 4, hM.blk.lt⟩
theorem rreadR (h : Ref w L rb d) (n : List UInt8) : Calls Tryd.prog 36 #[.pointer (some ⟨rb, 0, none⟩), .string ⟨n.toArray⟩] w fun e w' =>
    ∃ bo c, e = .returned (.tuple #[.slice bo (d.read n).1.length c, .int .i64 (d.read n).2.cls]) ∧ Own w' w.heap.size bo c (d.read n).1 ∧ Keeps [] w w' := by
  obtain ⟨fl, fa, c, hM, hA, rfl, hok⟩ := h
  have hfew := hA.few hok
  cases ho : d.off with
  | true =>
    refine (rread_off hM ho (by omega)).mono ?_
    rintro e w' ⟨rfl, rfl⟩
    refine ⟨none, 0, ?_, ?_, Keeps.refl _ _⟩
    · simp [DSt.read, ho, DRes.cls]
    · simp only [DSt.read, ho, if_true]; exact Own.nil _ _
  | false =>
    rcases alike_find hA n with ⟨i, x, hi, hn, hm, hf⟩ | ⟨hm, hf⟩
    · have hmo := hok.most (n, x.f) (mget_mem hm)
      refine (rread_ok hM ho (by omega) hi hn hf hmo).mono ?_
      rintro e w' ⟨ao, c, rfl, hO, hk⟩
      refine ⟨ao, c, ?_, ?_, hk⟩
      · simp [DSt.read, ho, hm, DRes.cls]
      · simpa [DSt.read, ho, hm] using hO
    · refine (rread_none hM ho (by omega) hf).mono ?_
      rintro e w' ⟨rfl, rfl⟩
      refine ⟨none, 0, ?_, ?_, Keeps.refl _ _⟩
      · simp [DSt.read, ho, hm, DRes.cls]
      · simp only [DSt.read, ho, hm]; exact Own.nil _ _
theorem rhaltR (h : Ref w L rb d) (k : Int) (hok2 : ({ d with halt := max k (-1) } : DSt).Ok) : Calls Tryd.prog 30 #[.pointer (some ⟨rb, 0, none⟩), .int .i64 k] w fun e w' => e = .returned (.tuple #[]) ∧ Ref w' L rb { d with halt := max k (-1) } ∧ Keeps L w w' := by
  obtain ⟨fl, fa, c, hM, hA, rfl, hok⟩ := h
  refine (rhalt hM k).mono ?_
  rintro e w' ⟨rfl, hM', hk⟩
  exact ⟨rfl, ⟨fl, fa, c, hM', hA, rfl, hok2⟩, hk.mono (fun x hx => by simp at hx; subst hx; exact .head _)⟩
theorem rnewR (r : Int) (w : World) (hok : (⟨[], r.toNat, 0, -1, false⟩ : DSt).Ok) : Calls Tryd.prog 20 #[.int .i64 r] w fun e w' => e = .returned (.pointer (some ⟨w.heap.size, 0, none⟩)) ∧ Ref w' [w.heap.size] w.heap.size ⟨[], r.toNat, 0, -1, false⟩ ∧ Keeps [] w w' := by
  refine (rnew r w).mono ?_
  rintro e w' ⟨rfl, hM, hk⟩
  exact ⟨rfl, ⟨[], none, 0, hM, Alike.nil, rfl, hok⟩, hk⟩
end
end Go.Proofs.YtcebbgmjbincbaaDoor
