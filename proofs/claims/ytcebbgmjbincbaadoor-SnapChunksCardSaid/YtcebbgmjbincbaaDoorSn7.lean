/- Snapshots: saves that are cut off; crashes; on plain data. -/
import Derived.Test.YtcebbgmjbincbaaDoorSn5

namespace Go.Proofs.YtcebbgmjbincbaaDoor
open Go.RowKit Go.Lib

/-- a disk of snapshots: cur: the newest one's bytes -/
structure SJ (d : DSt) (cur : Option (List UInt8)) : Prop where
  room : d.room = 200000
  names : ∀ f ∈ d.fs, f.1 = nmSnap ∨ f.1 = nmFresh
  snap : mget nmSnap d.fs = cur.map fun b => ⟨b, b.length⟩
  few : ∀ b, cur = some b → b.length ≤ 3000
  fresh : ∀ f, mget nmFresh d.fs = some f → f.b.length ≤ 3000
  nodup : (d.fs.map (·.1)).Nodup

theorem two_used {fs : List (List UInt8 × Fil)} (hn : (fs.map (·.1)).Nodup) (h : ∀ f ∈ fs, f.1 = nmSnap ∨ f.1 = nmFresh) : usedOf fs = ((mget nmSnap fs).getD ⟨[], 0⟩).b.length + ((mget nmFresh fs).getD ⟨[], 0⟩).b.length ∧ fs.length ≤ 2 := by
  have h1 := usedOf_mdel (n := nmSnap) (fs := fs)
  have h2 := usedOf_mdel (n := nmFresh) (fs := mdel nmSnap fs)
  rw [mget_mdel hn, if_neg (by decide)] at h2
  have h3 : mdel nmFresh (mdel nmSnap fs) = [] := by
    cases hm : mdel nmFresh (mdel nmSnap fs) with
    | nil => rfl
    | cons f r =>
      have hf : f ∈ mdel nmFresh (mdel nmSnap fs) := by rw [hm]; exact .head _
      have a := mem_mdel_ne (nodup_mdel hn) hf
      have b := mem_mdel_ne hn (mem_mdel hf)
      exact absurd (h f (mem_mdel (mem_mdel hf))) (by simp [a, b])
  rw [h3] at h2
  refine ⟨by simp [usedOf] at h1 h2 ⊢; omega, ?_⟩
  match fs, hn, h with
  | [], _, _ => simp
  | [_], _, _ => simp
  | [_, _], _, _ => simp
  | x :: y :: z :: r, hn, h =>
    have hx := h x (by simp)
    have hy := h y (by simp)
    have hz := h z (by simp)
    simp only [List.map_cons, List.nodup_cons, List.mem_cons, not_or] at hn
    obtain ⟨⟨a, b, _⟩, ⟨c, _⟩, _⟩ := hn
    rcases hx with hx | hx <;> rcases hy with hy | hy <;> rcases hz with hz | hz <;> rw [hx] at a b <;> rw [hy] at a c <;> rw [hz] at b c <;> simp at a b c

theorem rename_count (d : DSt) (n m : List UInt8) : (d.rename n m).1.count ≤ d.count + 1 := by
  unfold DSt.rename
  split
  · simp
  · split
    · simp
    · split
      · simp
      · split
        · simp [DSt.fall]
        · split <;> simp [DSt.tick]
theorem save_count (d : DSt) (b : List UInt8) : (d.save b).1.count ≤ d.count + 4 := by
  have h1 := remove_count d nmFresh
  have h2 := append_count (d.remove nmFresh).1 nmFresh b
  have h3 := sync_count ((d.remove nmFresh).1.append nmFresh b).1 nmFresh
  have h4 := rename_count (((d.remove nmFresh).1.append nmFresh b).1.sync nmFresh).1 nmFresh nmSnap
  unfold DSt.save
  split
  · omega
  · split
    · omega
    · split <;> omega

theorem mem_mput_names {fs : List (List UInt8 × Fil)} {s : List UInt8} {v : Fil} (hs : s = nmSnap ∨ s = nmFresh) (h : ∀ f ∈ fs, f.1 = nmSnap ∨ f.1 = nmFresh) : ∀ f ∈ mput s v fs, f.1 = nmSnap ∨ f.1 = nmFresh := fun f hf => by
  rcases mem_mput hf with rfl | hf
  · exact hs
  · exact h f hf
/-- the file beside it was laid -/
theorem SJ.lay {d : DSt} {cur : Option (List UInt8)} (h : SJ d cur) {v : Fil} (hv : v.b.length ≤ 3000) {d' : DSt} (hr : d'.room = d.room) (hf : d'.fs = mput nmFresh v d.fs) : SJ d' cur := by
  refine ⟨hr.trans h.room, ?_, ?_, h.few, ?_, ?_⟩ <;> rw [hf]
  · exact mem_mput_names (.inr rfl) h.names
  · rw [mget_mput, if_neg (by decide)]; exact h.snap
  · intro f hf'
    rw [mget_mput, if_pos rfl] at hf'
    obtain rfl := Option.some.inj hf'
    exact hv
  · exact nodup_mput h.nodup
theorem SJ.same {d : DSt} {cur : Option (List UInt8)} (h : SJ d cur) {d' : DSt} (hr : d'.room = d.room) (hf : d'.fs = d.fs) : SJ d' cur :=
  ⟨hr.trans h.room, by rw [hf]; exact h.names, by rw [hf]; exact h.snap, h.few, by rw [hf]; exact h.fresh, by rw [hf]; exact h.nodup⟩

/-- what a Save leaves: it was done, or the power went and the newest is the one ahead of it -/
theorem save_si {d : DSt} {cur : Option (List UInt8)} (h : SJ d cur) (ho : d.off = false) (b : List UInt8) (hb : b.length ≤ 3000) : ((d.save b).2 = .ok ∧ SJ (d.save b).1 (some b)) ∨ ((d.save b).2 = .down ∧ SJ (d.save b).1 cur) := by
  have hr1 : right nmFresh = true := by rfl
  have hr2 : right nmSnap = true := by rfl
  -- what Remove leaves
  have R : (d.remove nmFresh = (d.fall, .down)) ∨ ∃ d1 r1, d.remove nmFresh = (d1, r1) ∧ (r1.cls = 0 ∨ r1.cls = 30) ∧ d1.off = false ∧ SJ d1 cur ∧ mget nmFresh d1.fs = none := by
    cases hm : mget nmFresh d.fs with
    | none => exact .inr ⟨d, .bad nmFresh 30, by simp [DSt.remove, ho, hm], .inr rfl, ho, h, hm⟩
    | some f =>
      by_cases h0 : d.halt = 0
      · exact .inl (by simp [DSt.remove, ho, hm, h0])
      · refine .inr ⟨{ d.tick with fs := mdel nmFresh d.fs }, .ok, by simp [DSt.remove, ho, hm, h0], .inl rfl, ho, ⟨h.room, fun f hf => h.names f (mem_mdel hf), ?_, h.few, ?_, nodup_mdel h.nodup⟩, ?_⟩
        · show mget nmSnap (mdel nmFresh d.fs) = _
          rw [mget_mdel h.nodup, if_neg (by decide)]; exact h.snap
        · intro f hf
          have : mget nmFresh (mdel nmFresh d.fs) = some f := hf
          rw [mget_mdel h.nodup, if_pos rfl] at this
          cases this
        · show mget nmFresh (mdel nmFresh d.fs) = none
          rw [mget_mdel h.nodup, if_pos rfl]
  rcases R with R | ⟨d1, r1, R, hrc, ho1, h1, hm1⟩
  · refine .inr ?_
    have : d.save b = (d.fall, .down) := by unfold DSt.save; rw [R]; exact if_pos (by simp [DRes.cls])
    rw [this]
    exact ⟨rfl, h.same rfl rfl⟩
  have hnc : ¬ (r1.cls ≠ 0 ∧ r1.cls ≠ 30) := by rcases hrc with e | e <;> rw [e] <;> simp
  obtain ⟨hu, hl⟩ := two_used h1.nodup h1.names
  have hsl : ((mget nmSnap d1.fs).getD ⟨[], 0⟩).b.length ≤ 3000 := by
    rw [h1.snap]
    cases hc : cur with
    | none => simp
    | some c => simpa using h1.few c hc
  rw [hm1] at hu
  simp only [Option.getD_none, List.length_nil, Nat.add_zero] at hu
  -- Append
  have Ap : d1.append nmFresh b = if d1.halt = 0 then (d1.fall, .down) else ({ d1.tick with fs := mput nmFresh ⟨b, 0⟩ d1.fs }, .ok) := by
    simp only [DSt.append, DSt.got, hm1, hr1, ho1, Option.getD_none, List.length_nil, Nat.zero_add, List.nil_append]
    rw [if_neg (by simp), if_neg (by simp), if_neg (by have := h1.room; omega)]
  by_cases h0 : d1.halt = 0
  · rw [if_pos h0] at Ap
    refine .inr ?_
    have : d.save b = (d1.fall, .down) := by
      unfold DSt.save; rw [R]; dsimp only; rw [Ap, if_neg hnc]; exact if_pos (by simp [DRes.cls])
    rw [this]
    exact ⟨rfl, h1.same rfl rfl⟩
  rw [if_neg h0] at Ap
  obtain ⟨d2, hd2⟩ : ∃ d2 : DSt, d2 = { d1.tick with fs := mput nmFresh ⟨b, 0⟩ d1.fs } := ⟨_, rfl⟩
  rw [← hd2] at Ap
  have h2 : SJ d2 cur := h1.lay (v := ⟨b, 0⟩) hb (by rw [hd2]; rfl) (by rw [hd2])
  have ho2 : d2.off = false := by rw [hd2]; exact ho1
  have hm2 : mget nmFresh d2.fs = some ⟨b, 0⟩ := by rw [hd2]; show mget nmFresh (mput nmFresh _ _) = _; rw [mget_mput, if_pos rfl]
  by_cases h20 : d2.halt = 0
  · have Sy : d2.sync nmFresh = (d2.fall, .down) := by simp [DSt.sync, ho2, hm2, h20]
    refine .inr ?_
    have : d.save b = (d2.fall, .down) := by
      unfold DSt.save; rw [R]; dsimp only; rw [Ap]; dsimp only; rw [Sy, if_neg hnc, if_neg (by simp [DRes.cls])]; exact if_pos (by simp [DRes.cls])
    rw [this]
    exact ⟨rfl, h2.same rfl rfl⟩
  have Sy : d2.sync nmFresh = ({ d2.tick with fs := mput nmFresh ⟨b, b.length⟩ d2.fs }, .ok) := by simp [DSt.sync, ho2, hm2, h20]
  obtain ⟨d3, hd3⟩ : ∃ d3 : DSt, d3 = { d2.tick with fs := mput nmFresh ⟨b, b.length⟩ d2.fs } := ⟨_, rfl⟩
  rw [← hd3] at Sy
  have h3 : SJ d3 cur := h2.lay (v := ⟨b, b.length⟩) hb (by rw [hd3]; rfl) (by rw [hd3])
  have ho3 : d3.off = false := by rw [hd3]; exact ho2
  have hm3 : mget nmFresh d3.fs = some ⟨b, b.length⟩ := by rw [hd3]; show mget nmFresh (mput nmFresh _ _) = _; rw [mget_mput, if_pos rfl]
  have Sv : d.save b = d3.rename nmFresh nmSnap := by
    unfold DSt.save; rw [R]; dsimp only; rw [Ap]; dsimp only; rw [Sy]; dsimp only
    rw [if_neg hnc, if_neg (by simp [DRes.cls]), if_neg (by simp [DRes.cls])]
  by_cases h30 : d3.halt = 0
  · have Rn : d3.rename nmFresh nmSnap = (d3.fall, .down) := by simp [DSt.rename, ho3, hm3, h30, hr2]
    rw [Sv, Rn]
    exact .inr ⟨rfl, h3.same rfl rfl⟩
  · have Rn : d3.rename nmFresh nmSnap = ({ d3.tick with fs := mput nmSnap ⟨b, b.length⟩ (mdel nmFresh d3.fs) }, .ok) := by simp [DSt.rename, ho3, hm3, h30, hr2]
    rw [Sv, Rn]
    refine .inl ⟨rfl, h3.room, mem_mput_names (.inl rfl) (fun f hf => h3.names f (mem_mdel hf)), ?_, ?_, ?_, nodup_mput (nodup_mdel h3.nodup)⟩
    · show mget nmSnap (mput nmSnap _ _) = _
      rw [mget_mput, if_pos rfl]
      rfl
    · intro c hc; obtain rfl := Option.some.inj hc; exact hb
    · intro f hf
      have : mget nmFresh (mput nmSnap ⟨b, b.length⟩ (mdel nmFresh d3.fs)) = some f := hf
      rw [mget_mput, if_neg (by decide), mget_mdel h3.nodup, if_pos rfl] at this
      cases this

theorem crash_sj {d : DSt} {cur : Option (List UInt8)} (h : SJ d cur) (keep : List Int) : SJ (d.crash keep) cur := by
  have hg : ∀ n, mget n (d.crash keep).fs = (mget n d.fs).map (crashF keep (d.names.idxOf n)) := fun n => by
    show mget n (d.fs.map fun f => (f.1, (fun m x => crashF keep (d.names.idxOf m) x) f.1 f.2)) = _
    exact mget_map2 (fun m x => crashF keep (d.names.idxOf m) x) n d.fs
  have hk : (d.crash keep).fs.map (·.1) = d.fs.map (·.1) := by simp [DSt.crash, Function.comp_def]
  refine ⟨h.room, fun f hf => ?_, ?_, h.few, fun f hf => ?_, by rw [hk]; exact h.nodup⟩
  · have : f.1 ∈ (d.crash keep).fs.map (·.1) := List.mem_map.2 ⟨f, hf, rfl⟩
    rw [hk] at this
    obtain ⟨g, hg, he⟩ := List.mem_map.1 this
    rw [← he]
    exact h.names g hg
  · rw [hg, h.snap]
    cases cur with
    | none => rfl
    | some b =>
      simp only [Option.map_some, Option.some.injEq]
      unfold crashF
      simp only [Nat.sub_self]
      split
      · simp
      · rename_i k _
        have e : min (max k 0) 0 = 0 := by omega
        simp [e]
  · rw [hg] at hf
    obtain ⟨g, hg', rfl⟩ := Option.map_eq_some_iff.1 hf
    have := h.fresh g hg'
    show (g.b.take _).length ≤ 3000
    simp
    omega
end Go.Proofs.YtcebbgmjbincbaaDoor
