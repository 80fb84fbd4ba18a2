/- Snapshots: saves on a disk that nothing halts; what the laws know at first. -/
import Derived.Test.YtcebbgmjbincbaaDoorSn4

namespace Go.Proofs.YtcebbgmjbincbaaDoor
open Go.RowKit Go.Lib

theorem mdel_mput {α : Type} {s : List UInt8} {v : α} : ∀ {fs : List (List UInt8 × α)}, mget s fs = none → mdel s (mput s v fs) = fs
  | [], _ => by simp [mput, mdel]
  | f :: r, h => by
    unfold mget at h
    by_cases e : f.1 = s
    · rw [if_pos e] at h; cases h
    · rw [if_neg e] at h
      simp [mput, mdel, e, mdel_mput h]
theorem length_mput' {α : Type} {s : List UInt8} {v : α} {fs : List (List UInt8 × α)} : (mput s v fs).length ≤ fs.length + 1 := by
  rw [length_mput]
  split <;> omega
theorem save_clean {d : DSt} {B : List UInt8} (h1 : d.off = false) (h2 : d.halt = -1) (h3 : mget nmFresh d.fs = none) (h4 : usedOf d.fs + B.length ≤ d.room) (h5 : d.fs.length < 64) (h6 : B.length ≤ 1048576) :
    d.save B = ({ d with fs := mput nmSnap ⟨B, B.length⟩ d.fs, count := d.count + 3 }, .ok) := by
  obtain ⟨fs, room, count, halt, off⟩ := d
  simp only at h1 h2 h3 h4 h5
  subst h1 h2
  have hr1 : right nmFresh = true := by rfl
  have hr2 : right nmSnap = true := by rfl
  have e1 : (⟨fs, room, count, -1, false⟩ : DSt).remove nmFresh = (⟨fs, room, count, -1, false⟩, .bad nmFresh 30) := by simp [DSt.remove, h3]
  have e2 : (⟨fs, room, count, -1, false⟩ : DSt).append nmFresh B = (⟨mput nmFresh ⟨B, 0⟩ fs, room, count + 1, -1, false⟩, .ok) := by
    simp only [DSt.append, DSt.got, h3, hr1, Option.getD_none, List.length_nil, Nat.zero_add, List.nil_append]
    rw [if_neg (by simp), if_neg (by simp), if_neg (by omega), if_neg (by omega)]
    simp [DSt.tick]
  have e3 : (⟨mput nmFresh ⟨B, 0⟩ fs, room, count + 1, -1, false⟩ : DSt).sync nmFresh = (⟨mput nmFresh ⟨B, B.length⟩ fs, room, count + 2, -1, false⟩, .ok) := by
    simp only [DSt.sync]
    rw [mget_mput, if_pos rfl]
    simp [DSt.tick, mput_mput]
  have e4 : (⟨mput nmFresh ⟨B, B.length⟩ fs, room, count + 2, -1, false⟩ : DSt).rename nmFresh nmSnap = (⟨mput nmSnap ⟨B, B.length⟩ fs, room, count + 3, -1, false⟩, .ok) := by
    simp only [DSt.rename, hr2]
    rw [mget_mput, if_pos rfl, mdel_mput h3]
    simp [DSt.tick]
  unfold DSt.save
  rw [e1]
  dsimp only
  rw [e2]
  dsimp only
  rw [e3]
  dsimp only
  rw [e4]
  rw [if_neg (by simp [DRes.cls]), if_neg (by simp [DRes.cls]), if_neg (by simp [DRes.cls])]
theorem crash_sure {d : DSt} {keep : List Int} (h1 : d.off = false) (h2 : d.halt = -1) (h : ∀ f ∈ d.fs, f.2.sure = f.2.b.length) : d.crash keep = d := by
  obtain ⟨fs, room, count, halt, off⟩ := d
  simp only at h1 h2 h
  subst h1 h2
  simp only [DSt.crash, DSt.mk.injEq, and_true]
  have : ∀ f ∈ fs, (f.1, crashF keep ((⟨fs, room, count, -1, false⟩ : DSt).names.idxOf f.1) f.2) = id f := fun f hf => by
    obtain ⟨n, b, s⟩ := f
    have hs := h _ hf
    simp only at hs
    subst hs
    simp only [id, Prod.mk.injEq, true_and]
    unfold crashF
    simp only [Nat.sub_self]
    split
    · simp
    · rename_i k _
      have e : min (max k 0) 0 = 0 := by omega
      simp [e]
  rw [List.map_congr_left this, List.map_id]

set_option maxRecDepth 100000 in
set_option maxHeartbeats 4000000 in
theorem sknown (w : World) : Calls Tryd.prog 37 #[] w fun e w' => e = .returned (.bool true) ∧ Keeps [] w w' := by
  obtain ⟨B, hB⟩ : ∃ B, B = frame (snB 3 1 [97, 98, 99]) := ⟨_, rfl⟩
  have hBl : B.length ≤ 100 := by
    rw [hB, frame_length]
    have h1 := uvarint_length64 (x := 3) (by omega)
    have h2 := uvarint_length64 (x := 1) (by omega)
    simp [snB]
    omega
  have HB := Lib.hid hB
  go_enter Tryd.func37, Tryd.ntmps37
  go_wp2_with fail
  refine (dnew 10000 (by omega) w).mono ?_
  rintro e w1 ⟨db, L, rfl, hD, hk1, hL⟩
  have q1 := Lib.run_convert_bytes_const (P := Tryd.prog) w1 22 5 #[.int .u8 97, .int .u8 98, .int .u8 99] 3 3 Tryd.underlying22 Tryd.underlying5
  have hkA := (Keeps.refl [] w1).alloc (.cells #[.int .u8 97, .int .u8 98, .int .u8 99] 5 (3, 4))
  have hR := rb_mark w1 [97, 98, 99] (3, 4) (by decide)
  have hS := save_none (hD.keep0 hkA) rfl (by decide) 3 1 hR (by decide) (by omega) (by omega) rfl
  rw [← hB, save_clean rfl rfl rfl (by show usedOf [] + B.length ≤ 10000; simp [usedOf]; omega) (by decide) (by omega)] at hS
  have HS := Lib.hid hS
  clear hS hR hB
  go_wp2_with fail
  refine HS.out.mono ?_
  rintro e w2 ⟨ev, L2, rfl, hE, hD2, hk2, hL2⟩
  obtain rfl : ev = .nilIface := hE
  clear q1
  have hLd := load_some hD2 rfl (f := ⟨B, B.length⟩) (by rfl) 3 1 [97, 98, 99] HB.out (by decide) (by omega) (by omega)
  have HLd := Lib.hid hLd
  clear hLd
  have hk02 : Keeps [] w w2 := (hk1.trans hkA).step hk2 (fun x hx => .inr (hL x hx))
  clear hk1 hkA hk2 hL hD hD2 hL2
  go_wp2_with fail
  refine HLd.out.mono ?_
  rintro e w3 ⟨b3, c3, rfl, hO3, hk3⟩
  have hkA := (Keeps.refl [] w3).alloc (.cells #[.int .u64 3, .int .u64 1, .slice b3 3 c3] 69)
  have hC := chunk_any 3 1 b3 c3 [97, 98, 99] 1 _ (hO3.rb.keep0 hkA) (by decide) (by decide)
  have hXA := Blk.fresh w3 69 #[.int .u64 3, .int .u64 1, .slice b3 3 c3]
  have HC := Lib.hid hC
  have hk04 := (hk02.trans hk3).trans hkA
  clear hC hO3 hk3 hk02 hkA
  go_wp2_with (refine wpList_load_agg rfl _ _ rfl w3.heap.size 0 3 rfl 69 _ _ hXA Tryd.underlying69 rfl Tryd.sizeSnap (by simp) _ rfl ?_)
  refine HC.out.mono ?_
  rintro e w4 ⟨b4, c4, rfl, hO4, hk4⟩
  have hX4 := hXA.keep hk4 (by simp)
  have hXc := hX4.cell
  have r1 : (convert 22 9 (.slice b4 2 c4)).run Tryd.prog w4 = .ok (.string ⟨#[98, 99]⟩) w4 := run_text hO4.rb 22 9 Tryd.underlying22 Tryd.underlying9
  have hk05 := hk04.trans hk4
  clear hXA hX4 hO4 hk04 hk4
  go_wp2_with fail
  go_ret
  exact ⟨by simp, hk05⟩
end Go.Proofs.YtcebbgmjbincbaaDoor
