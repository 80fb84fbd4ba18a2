/- The wal's file on the disk, on plain data: what calls and crashes leave of it. -/
import Derived.Test.YtfgmbjdeimallaaGreatDoorWsZ
namespace Go.Proofs.YtfgmbjdeimallaaGreatDoor
open Go.RowKit Go.Lib

structure OkO (o : List (List UInt8 × Fil)) : Prop where
  used : usedOf o ≤ 100
  few : o.length ≤ 2
  sure : ∀ f ∈ o, f.2.sure = f.2.b.length
/-- the wal's file: wherever it is cut off behind what is sure, it tells a state of may -/
structure WF (o : List (List UInt8 × Fil)) (d : DSt) (may : List Ws) : Prop where
  room : 65536 ≤ d.room
  nodup : (d.fs.map (·.1)).Nodup
  rest : others d.fs = o
  new : lenOf nmNew d.fs ≤ 15000
  file : (mget nmWal d.fs = none ∧ Ws.nil ∈ may) ∨ ∃ f evs t k, mget nmWal d.fs = some f ∧ f.b = fileOf evs ++ t ∧ Tail t ∧ Ws.nil.Mays evs ∧ f.b.length ≤ 30000 ∧ k ≤ evs.length ∧ (fileOf (evs.take k)).length ≤ f.sure ∧ f.sure ≤ f.b.length ∧ ∀ j, k ≤ j → j ≤ evs.length → Ws.nil.plays (evs.take j) ∈ may
/-- the same beside a wal that is open -/
structure WJ (o : List (List UInt8 × Fil)) (d : DSt) (s : Ws) (size : Int) (may : List Ws) : Prop where
  room : 65536 ≤ d.room
  nodup : (d.fs.map (·.1)).Nodup
  rest : others d.fs = o
  new : mget nmNew d.fs = none
  on : d.off = false
  file : (mget nmWal d.fs = none ∧ s = Ws.nil ∧ size = -1 ∧ Ws.nil ∈ may) ∨ ∃ f evs k, mget nmWal d.fs = some f ∧ f.b = fileOf evs ∧ Ws.nil.Mays evs ∧ Ws.nil.plays evs = s ∧ size = (f.b.length : Int) ∧ f.b.length ≤ 30000 ∧ k ≤ evs.length ∧ (fileOf (evs.take k)).length ≤ f.sure ∧ f.sure ≤ f.b.length ∧ ∀ j, k ≤ j → j ≤ evs.length → Ws.nil.plays (evs.take j) ∈ may

section
variable {o : List (List UInt8 × Fil)} {d d' : DSt} {s : Ws} {size : Int} {may may' : List Ws} {n b : List UInt8}
theorem WF.mono (h : WF o d may) (hm : ∀ x ∈ may, x ∈ may') : WF o d may' := by
  refine ⟨h.room, h.nodup, h.rest, h.new, ?_⟩
  rcases h.file with ⟨h1, h2⟩ | ⟨f, evs, t, k, h1, h2, h3, h4, h5, h6, h7, h8, h9⟩
  · exact .inl ⟨h1, hm _ h2⟩
  · exact .inr ⟨f, evs, t, k, h1, h2, h3, h4, h5, h6, h7, h8, fun j h h' => hm _ (h9 j h h')⟩
theorem WJ.mono (h : WJ o d s size may) (hm : ∀ x ∈ may, x ∈ may') : WJ o d s size may' := by
  refine ⟨h.room, h.nodup, h.rest, h.new, h.on, ?_⟩
  rcases h.file with ⟨h1, h2, h3, h4⟩ | ⟨f, evs, k, h1, h2, h3, h4, h5, h6, h7, h8, h9, h10⟩
  · exact .inl ⟨h1, h2, h3, hm _ h4⟩
  · exact .inr ⟨f, evs, k, h1, h2, h3, h4, h5, h6, h7, h8, h9, fun j h h' => hm _ (h10 j h h')⟩
theorem WF.same (h : WF o d may) (hr : d'.room = d.room) (hf : d'.fs = d.fs) : WF o d' may :=
  ⟨by rw [hr]; exact h.room, by rw [hf]; exact h.nodup, by rw [hf]; exact h.rest, by rw [hf]; exact h.new, by rw [hf]; exact h.file⟩
theorem WJ.same (h : WJ o d s size may) (hr : d'.room = d.room) (hf : d'.fs = d.fs) (ho : d'.off = d.off) : WJ o d' s size may :=
  ⟨by rw [hr]; exact h.room, by rw [hf]; exact h.nodup, by rw [hf]; exact h.rest, by rw [hf]; exact h.new, by rw [ho]; exact h.on, by rw [hf]; exact h.file⟩
theorem WJ.wf (h : WJ o d s size may) : WF o d may := by
  refine ⟨h.room, h.nodup, h.rest, by simp [lenOf, h.new], ?_⟩
  rcases h.file with ⟨h1, h2, h3, h4⟩ | ⟨f, evs, k, h1, h2, h3, h4, h5, h6, h7, h8, h9, h10⟩
  · exact .inl ⟨h1, h4⟩
  · exact .inr ⟨f, evs, [], k, h1, by simpa using h2, Tail.nil, h3, h6, h7, h8, h9, h10⟩
theorem WF.len (h : WF o d may) : lenOf nmWal d.fs ≤ 30000 := by
  rcases h.file with ⟨h1, _⟩ | ⟨f, evs, t, k, h1, _, _, _, h5, _⟩
  · simp [lenOf, h1]
  · simpa [lenOf, h1] using h5
theorem WF.used (hO : OkO o) (h : WF o d may) : usedOf d.fs ≤ 100 + lenOf nmWal d.fs + lenOf nmNew d.fs ∧ d.fs.length ≤ 4 := by
  have h1 := others_used h.nodup
  have h2 := others_length h.nodup
  rw [h.rest] at h1 h2
  have := hO.used
  have := hO.few
  omega
theorem WJ.here (h : WJ o d s size may) : s ∈ may := by
  rcases h.file with ⟨h1, h2, h3, h4⟩ | ⟨f, evs, k, h1, h2, h3, h4, h5, h6, h7, h8, h9, h10⟩
  · rw [h2]; exact h4
  · have := h10 evs.length h7 (Nat.le_refl _)
    rwa [List.take_length, h4] at this
theorem WJ.ok (h : WJ o d s size may) : s.Ok := by
  rcases h.file with ⟨h1, h2, h3, h4⟩ | ⟨f, evs, k, h1, h2, h3, h4, h5, h6, h7, h8, h9, h10⟩
  · rw [h2]; exact Ws.Ok.nil
  · rw [← h4]; exact Ws.Ok.nil.plays h3
theorem WJ.most (h : WJ o d s size may) : -1 ≤ size ∧ size ≤ 30000 ∧ s.es.length ≤ 30000 := by
  rcases h.file with ⟨h1, h2, h3, h4⟩ | ⟨f, evs, k, h1, h2, h3, h4, h5, h6, h7, h8, h9, h10⟩
  · rw [h2, h3]; simp
  · have h11 := plays_few evs Ws.nil
    have h12 := fileOf_count evs
    rw [h4] at h11
    rw [h2] at h5 h6
    simp at h11
    omega

theorem append_run (ho : d.off = false) (hr : right n = true) (h1 : usedOf d.fs + b.length ≤ d.room) (h2 : d.fs.length < 64) (h3 : (d.got n).b.length + b.length ≤ 1048576) :
    d.append n b = if d.halt = 0 then (d.fall, .down) else ({ d.tick with fs := mput n ⟨(d.got n).b ++ b, (d.got n).sure⟩ d.fs }, .ok) := by
  unfold DSt.append
  rw [if_neg (by simp [ho]), if_neg (by simp [hr]), if_neg]
  rintro (h | ⟨_, h⟩ | h) <;> omega
theorem tick_halt (d : DSt) (h : d.halt = -1) : d.tick.halt = -1 := by simp [DSt.tick, h]

/-- what a changing call on the wal's file leaves -/
def Went (o : List (List UInt8 × Fil)) (d : DSt) (r : DSt × DRes) (s : Ws) (size : Int) (may : List Ws) : Prop :=
  (r.2 = .ok ∧ WJ o r.1 s size may ∧ (d.halt = -1 → r.1.halt = -1) ∧ r.1.room = d.room) ∨ (r.2 = .down ∧ WF o r.1 may ∧ d.halt ≠ -1 ∧ r.1.room = d.room)

theorem anew_wj (hO : OkO o) (h : WJ o d s size may) (hA : (fileOf (anewEvs s)).length ≤ 15000) : (∃ r1, d.anew s = (r1, .ok) ∧ WJ o r1 s ((fileOf (anewEvs s)).length : Int) [s] ∧ (d.halt = -1 → r1.halt = -1) ∧ r1.room = d.room) ∨ (∃ r1, d.anew s = (r1, .down) ∧ WF o r1 may ∧ d.halt ≠ -1 ∧ r1.room = d.room) := by
  obtain ⟨B, hB⟩ : ∃ B, B = fileOf (anewEvs s) := ⟨_, rfl⟩
  have hu := (h.wf).used hO
  have hw := h.wf.len
  have hn0 : lenOf nmNew d.fs = 0 := by simp [lenOf, h.new]
  have hgot : d.got nmNew = ⟨[], 0⟩ := DSt.got_none h.new
  have hrm := h.room
  have h1 := append_run (d := d) (n := nmNew) (b := B) h.on (by decide) (by rw [hB]; omega) (by omega) (by rw [hgot, hB]; simp; omega)
  rw [hgot] at h1
  unfold DSt.anew
  rw [← hB, h1]
  by_cases h0 : d.halt = 0
  · rw [if_pos h0, if_pos (c := (d.fall, DRes.down).2.isOk = false) rfl]
    exact .inr ⟨_, rfl, h.wf.same rfl rfl, by omega, rfl⟩
  rw [if_neg h0, if_neg (by simp [DRes.isOk])]
  obtain ⟨d1, hd1⟩ : ∃ d1 : DSt, d1 = { d.tick with fs := mput nmNew ⟨[] ++ B, 0⟩ d.fs } := ⟨_, rfl⟩
  have hf1 : mget nmNew d1.fs = some ⟨B, 0⟩ := by rw [hd1]; simp [mget_mput]
  have W1 : WF o d1 may := by
    refine ⟨by rw [hd1]; exact h.room, by rw [hd1]; exact nodup_mput h.nodup, by rw [hd1]; simpa [others_mput (.inr rfl)] using h.rest, by simp [lenOf, hf1]; rw [hB]; exact hA, ?_⟩
    have e : mget nmWal d1.fs = mget nmWal d.fs := by rw [hd1]; simp only; rw [mget_mput, if_neg (by decide)]
    rw [e]
    exact h.wf.file
  have h2 : d1.sync nmNew = if d1.halt = 0 then (d1.fall, .down) else ({ d1.tick with fs := mput nmNew ⟨B, B.length⟩ d1.fs }, .ok) := by
    unfold DSt.sync
    rw [if_neg (by rw [hd1]; simp [DSt.tick, h.on]), hf1]
  have hh1 : d.halt = -1 → d1.halt = -1 := fun hh => by rw [hd1]; exact tick_halt d hh
  simp only
  rw [← hd1, h2]
  by_cases h01 : d1.halt = 0
  · rw [if_pos h01, if_pos (c := (d1.fall, DRes.down).2.isOk = false) rfl]
    refine .inr ⟨_, rfl, W1.same rfl rfl, fun hh => by have := hh1 hh; omega, by rw [hd1]; rfl⟩
  rw [if_neg h01, if_neg (by simp [DRes.isOk])]
  obtain ⟨d2, hd2⟩ : ∃ d2 : DSt, d2 = { d1.tick with fs := mput nmNew ⟨B, B.length⟩ d1.fs } := ⟨_, rfl⟩
  have hf2 : mget nmNew d2.fs = some ⟨B, B.length⟩ := by rw [hd2]; simp [mget_mput]
  have W2 : WF o d2 may := by
    refine ⟨by rw [hd2]; exact W1.room, by rw [hd2]; exact nodup_mput W1.nodup, by rw [hd2]; simpa [others_mput (.inr rfl)] using W1.rest, by simp [lenOf, hf2]; rw [hB]; exact hA, ?_⟩
    have e : mget nmWal d2.fs = mget nmWal d1.fs := by rw [hd2]; simp only; rw [mget_mput, if_neg (by decide)]
    rw [e]
    exact W1.file
  have hoff2 : d2.off = false := by rw [hd2, hd1]; simp [DSt.tick, h.on]
  have h3 : d2.rename nmNew nmWal = if d2.halt = 0 then (d2.fall, .down) else ({ d2.tick with fs := mput nmWal ⟨B, B.length⟩ (mdel nmNew d2.fs) }, .ok) := by
    unfold DSt.rename
    rw [if_neg (by simp [hoff2]), if_neg (by decide), hf2]
    simp only
    split
    · rfl
    · rw [if_neg (by decide)]
  have hh2 : d.halt = -1 → d2.halt = -1 := fun hh => by rw [hd2]; exact tick_halt d1 (hh1 hh)
  simp only
  rw [← hd2, h3]
  by_cases h02 : d2.halt = 0
  · rw [if_pos h02]
    exact .inr ⟨_, rfl, W2.same rfl rfl, fun hh => by have := hh2 hh; omega, by rw [hd2, hd1]; rfl⟩
  rw [if_neg h02]
  refine .inl ⟨_, rfl, ⟨W2.room, nodup_mput (nodup_mdel W2.nodup), ?_, ?_, hoff2, .inr ⟨⟨B, B.length⟩, anewEvs s, (anewEvs s).length, ?_, hB, mays_anew h.ok, plays_anew s, by rw [hB], by rw [hB]; simp only; omega, Nat.le_refl _, by rw [List.take_length, ← hB]; exact Nat.le_refl _, Nat.le_refl _, fun j h1 h2 => ?_⟩⟩, fun hh => tick_halt d2 (hh2 hh), by rw [hd2, hd1]; rfl⟩
  · simp only [others_mput (.inl rfl), others_mdel (.inr rfl)]
    exact W2.rest
  · simp only
    rw [mget_mput, if_neg (by decide), mget_mdel W2.nodup, if_pos rfl]
  · simp only
    rw [mget_mput, if_pos rfl]
  · obtain rfl : j = (anewEvs s).length := by omega
    rw [List.take_length, plays_anew]
    exact .head _

theorem app_wj (hO : OkO o) (h : WJ o d s size may) (l : List Ev) (hl : s.Mays l) (hB : max size 0 + ((fileOf l).length : Int) ≤ 30000) (hm : ∀ x ∈ may, x ∈ may') (hm2 : ∀ j, j ≤ l.length → s.plays (l.take j) ∈ may') :
    (∃ r1, d.append nmWal (fileOf l) = (r1, .ok) ∧ WJ o r1 (s.plays l) (max size 0 + ((fileOf l).length : Int)) may' ∧ (d.halt = -1 → r1.halt = -1) ∧ r1.room = d.room) ∨ (∃ r1, d.append nmWal (fileOf l) = (r1, .down) ∧ WF o r1 may' ∧ d.halt ≠ -1 ∧ r1.room = d.room) := by
  have hu := (h.wf).used hO
  have hw := h.wf.len
  have hn0 : lenOf nmNew d.fs = 0 := by simp [lenOf, h.new]
  have hrm := h.room
  have hg : (d.got nmWal).b.length = lenOf nmWal d.fs := by simp [DSt.got, lenOf]
  have h1 := append_run (d := d) (n := nmWal) (b := fileOf l) h.on (by decide) (by omega) (by omega) (by rw [hg]; omega)
  rw [h1]
  by_cases h0 : d.halt = 0
  · rw [if_pos h0]
    exact .inr ⟨_, rfl, (h.wf.mono hm).same rfl rfl, by omega, rfl⟩
  rw [if_neg h0]
  refine .inl ⟨_, rfl, ⟨h.room, nodup_mput h.nodup, by simpa [others_mput (.inl rfl)] using h.rest, ?_, h.on, .inr ?_⟩, fun hh => tick_halt d hh, rfl⟩
  · simp only
    rw [mget_mput, if_neg (by decide)]
    exact h.new
  · rcases h.file with ⟨h1, h2, h3, h4⟩ | ⟨f, evs, k, h1, h2, h3, h4, h5, h6, h7, h8, h9, h10⟩
    · have hgot : d.got nmWal = ⟨[], 0⟩ := DSt.got_none h1
      rw [hgot]
      subst h2 h3
      refine ⟨⟨[] ++ fileOf l, 0⟩, l, 0, by simp only; rw [mget_mput, if_pos rfl], by simp, hl, rfl, by simp only [List.nil_append]; omega, by simp; omega, Nat.zero_le _, by simp [fileOf], Nat.zero_le _, fun j _ h => hm2 j h⟩
    · have hgot : d.got nmWal = f := DSt.got_some h1
      rw [hgot]
      subst h5
      refine ⟨⟨f.b ++ fileOf l, f.sure⟩, evs ++ l, k, by simp only; rw [mget_mput, if_pos rfl], by rw [h2, fileOf_append], (Ws.mays_append _ _ _).2 ⟨h3, by rw [h4]; exact hl⟩, by rw [Ws.plays_append, h4], by simp <;> omega, by simp <;> omega, by simp <;> omega, ?_, by simp <;> omega, fun j hj1 hj2 => ?_⟩
      · rw [List.take_append_of_le_length h7]
        exact h8
      · rcases Nat.lt_or_ge evs.length j with hlt | hge
        · rw [List.take_append, List.take_of_length_le (by omega), Ws.plays_append, h4]
          exact hm2 _ (by simp at hj2; omega)
        · rw [List.take_append_of_le_length hge]
          exact hm _ (h10 j hj1 hge)
end
end Go.Proofs.YtfgmbjdeimallaaGreatDoor
/- The wal's file on the disk, on plain data: frames laid, synced, crashes, Open. -/
namespace Go.Proofs.YtfgmbjdeimallaaGreatDoor
open Go.RowKit Go.Lib

section
variable {o : List (List UInt8 × Fil)} {d d' : DSt} {s : Ws} {z : Int} {may may' : List Ws} {n b : List UInt8}
theorem lays_wj (hO : OkO o) (h : WJ o d s z may) (l : List Ev) (hl : s.Mays l) (hA : (fileOf (anewEvs s)).length ≤ 15000) (hB : (fileOf l).length ≤ 15000) (hm : ∀ x ∈ may, x ∈ may') (hm2 : ∀ j, j ≤ l.length → s.plays (l.take j) ∈ may') :
    (∃ r1 z1, d.lays s z (fileOf l) = (r1, z1, .ok) ∧ WJ o r1 (s.plays l) z1 may' ∧ (d.halt = -1 → r1.halt = -1) ∧ r1.room = d.room) ∨ (∃ r1 z1, d.lays s z (fileOf l) = (r1, z1, .down) ∧ WF o r1 may' ∧ d.halt ≠ -1 ∧ r1.room = d.room) := by
  unfold DSt.lays
  by_cases hbig : 24000 < max z 0 + ((fileOf l).length : Int) ∧ 0 < z
  · rw [if_pos hbig]
    rcases anew_wj hO h hA with ⟨r1, e1, h1, h2, h3⟩ | ⟨r1, e1, h1, h2, h3⟩
    · rw [e1, if_neg (by simp [DRes.isOk])]
      have hs2 : ∀ x ∈ [s], x ∈ may' := fun x hx => by
        simp at hx
        subst hx
        exact hm _ h.here
      rcases app_wj hO h1 l hl (by omega) hs2 hm2 with ⟨r2, e2, h4, h5, h6⟩ | ⟨r2, e2, h4, h5, h6⟩
      · rw [e2, if_neg (by simp [DRes.isOk])]
        rw [show max (((fileOf (anewEvs s)).length : Nat) : Int) 0 = ((fileOf (anewEvs s)).length : Int) by omega] at h4
        exact .inl ⟨r2, _, rfl, h4, fun hh => h5 (h2 hh), h6.trans h3⟩
      · rw [e2, if_pos (c := ((r2, DRes.down).2.isOk = false)) rfl]
        exact .inr ⟨r2, _, rfl, h4, fun hh => h5 (h2 hh), h6.trans h3⟩
    · rw [e1, if_pos (c := ((r1, DRes.down).2.isOk = false)) rfl]
      exact .inr ⟨r1, _, rfl, h1.mono hm, h2, h3⟩
  · rw [if_neg hbig]
    have hz := h.most
    rcases app_wj hO h l hl (by omega) hm hm2 with ⟨r2, e2, h4, h5, h6⟩ | ⟨r2, e2, h4, h5, h6⟩
    · rw [e2, if_neg (by simp [DRes.isOk])]
      exact .inl ⟨r2, _, rfl, h4, h5, h6⟩
    · rw [e2, if_pos (c := ((r2, DRes.down).2.isOk = false)) rfl]
      exact .inr ⟨r2, _, rfl, h4, h5, h6⟩

theorem sync_wj (h : WJ o d s z may) (hz : 0 ≤ z) :
    (∃ r1, d.sync nmWal = (r1, .ok) ∧ WJ o r1 s z [s] ∧ (d.halt = -1 → r1.halt = -1) ∧ r1.room = d.room) ∨ (∃ r1, d.sync nmWal = (r1, .down) ∧ WF o r1 may ∧ d.halt ≠ -1 ∧ r1.room = d.room) := by
  rcases h.file with ⟨h1, h2, h3, h4⟩ | ⟨f, evs, k, h1, h2, h3, h4, h5, h6, h7, h8, h9, h10⟩
  · omega
  · have hs : d.sync nmWal = if d.halt = 0 then (d.fall, .down) else ({ d.tick with fs := mput nmWal ⟨f.b, f.b.length⟩ d.fs }, .ok) := by
      unfold DSt.sync
      rw [if_neg (by simp [h.on]), h1]
    rw [hs]
    by_cases h0 : d.halt = 0
    · rw [if_pos h0]
      exact .inr ⟨_, rfl, h.wf.same rfl rfl, by omega, rfl⟩
    · rw [if_neg h0]
      refine .inl ⟨_, rfl, ⟨h.room, nodup_mput h.nodup, by simpa [others_mput (.inl rfl)] using h.rest, ?_, h.on, .inr ⟨⟨f.b, f.b.length⟩, evs, evs.length, ?_, h2, h3, h4, h5, h6, Nat.le_refl _, by rw [List.take_length, ← h2]; exact Nat.le_refl _, Nat.le_refl _, fun j hj1 hj2 => ?_⟩⟩, fun hh => tick_halt d hh, rfl⟩
      · simp only
        rw [mget_mput, if_neg (by decide)]
        exact h.new
      · simp only
        rw [mget_mput, if_pos rfl]
      · obtain rfl : j = evs.length := by omega
        rw [List.take_length, h4]
        exact .head _
theorem sync0_wj (h : WJ o d s z may) (hz : z < 0) : WJ o d s z [s] ∧ mget nmWal d.fs = none := by
  rcases h.file with ⟨h1, h2, h3, h4⟩ | ⟨f, evs, k, h1, h2, h3, h4, h5, h6, h7, h8, h9, h10⟩
  · exact ⟨⟨h.room, h.nodup, h.rest, h.new, h.on, .inl ⟨h1, h2, h3, by rw [h2]; exact .head _⟩⟩, h1⟩
  · omega

theorem Tail.take {t : List UInt8} (h : Tail t) (n : Nat) : Tail (t.take n) := by
  obtain ⟨p, h1, h2, h3⟩ := h
  refine ⟨p, h1, by simp; omega, ?_⟩
  rw [h3, List.take_take]
  congr 1
  simp
  omega
theorem crashF_form (keep : List Int) (i : Nat) (f : Fil) (h : f.sure ≤ f.b.length) : ∃ n, crashF keep i f = ⟨f.b.take n, n⟩ ∧ f.sure ≤ n ∧ n ≤ f.b.length := by
  refine ⟨(crashF keep i f).sure, rfl, ?_, crashF_le i f h⟩
  unfold crashF
  simp
theorem crash_wf (hO : OkO o) (h : WF o d may) (keep : List Int) : WF o (d.crash keep) may := by
  refine ⟨h.room, crash_nodup h.nodup, ?_, ?_, ?_⟩
  · rw [others_crash (by rw [h.rest]; exact hO.sure)]
    exact h.rest
  · have := h.new
    unfold lenOf at this ⊢
    rw [crash_get]
    cases hm : mget nmNew d.fs with
    | none => simp
    | some f =>
      rw [hm] at this
      simp only [Option.map_some, Option.getD_some] at this ⊢
      rw [crashF_b]
      simp
      omega
  · rw [crash_get]
    rcases h.file with ⟨h1, h2⟩ | ⟨f, evs, t, k, h1, h2, h3, h4, h5, h6, h7, h8, h9⟩
    · exact .inl ⟨by rw [h1]; rfl, h2⟩
    · rw [h1]
      obtain ⟨n, e1, e2, e3⟩ := crashF_form keep (d.names.idxOf nmWal) f h8
      right
      have hcnt := fileOf_count evs
      have hlen : f.b.length = (fileOf evs).length + t.length := by rw [h2]; simp
      rcases Nat.lt_or_ge (fileOf evs).length n with hlt | hge
      · refine ⟨_, evs, t.take (n - (fileOf evs).length), k, by rw [Option.map_some, e1], ?_, h3.take _, h4, by simp; omega, h6, by simp only; omega, by simp; omega, h9⟩
        simp only
        rw [h2, List.take_append, List.take_of_length_le (by omega)]
      · have hsm := mays_small evs Ws.nil Ws.Ok.nil (by simp; omega) h4
        obtain ⟨j, t', a1, a2, a3, a4⟩ := fileOf_take evs n (fun e he => by have := hsm e he; omega) hge
        have hkj := a4 k h6 (by omega)
        have hmj : Ws.nil.Mays (evs.take j) := by
          have := List.take_append_drop j evs
          rw [← this] at h4
          exact ((Ws.mays_append _ _ _).1 h4).1
        refine ⟨_, evs.take j, t', k, by rw [Option.map_some, e1], ?_, a3, hmj, by simp; omega, by simp; omega, ?_, by simp; omega, fun i hi1 hi2 => ?_⟩
        · simp only
          rw [h2, List.take_append_of_le_length hge, a2]
        · rw [List.take_take, Nat.min_eq_left hkj]
          simp only
          omega
        · simp at hi2
          rw [List.take_take, Nat.min_eq_left (by omega)]
          exact h9 i hi1 (by omega)

/-- a disk whose file beside the wal's went -/
theorem remove_wf (h : WF o d may) (ho : d.off = false) :
    ((d.remove nmNew).2 = .down ∧ (d.remove nmNew).2.isDown = true ∧ WF o (d.remove nmNew).1 may ∧ d.halt ≠ -1 ∧ (d.remove nmNew).1.room = d.room) ∨ ((d.remove nmNew).2.isDown = false ∧ WF o (d.remove nmNew).1 may ∧ mget nmNew (d.remove nmNew).1.fs = none ∧ (d.remove nmNew).1.off = false ∧ mget nmWal (d.remove nmNew).1.fs = mget nmWal d.fs ∧ (d.halt = -1 → (d.remove nmNew).1.halt = -1) ∧ (d.remove nmNew).1.room = d.room) := by
  cases hm : mget nmNew d.fs with
  | none =>
    have e : d.remove nmNew = (d, .bad nmNew 30) := by simp [DSt.remove, ho, hm]
    rw [e]
    exact .inr ⟨rfl, h, hm, ho, rfl, id, rfl⟩
  | some f =>
    have e : d.remove nmNew = if d.halt = 0 then (d.fall, .down) else ({ d.tick with fs := mdel nmNew d.fs }, .ok) := by simp [DSt.remove, ho, hm]
    rw [e]
    by_cases h0 : d.halt = 0
    · rw [if_pos h0]
      exact .inl ⟨rfl, rfl, h.same rfl rfl, by omega, rfl⟩
    · rw [if_neg h0]
      have e2 : mget nmWal (mdel nmNew d.fs) = mget nmWal d.fs := by rw [mget_mdel h.nodup, if_neg (by decide)]
      have e3 : mget nmNew (mdel nmNew d.fs) = none := by rw [mget_mdel h.nodup, if_pos rfl]
      refine .inr ⟨rfl, ⟨h.room, nodup_mdel h.nodup, by simpa [others_mdel (.inr rfl)] using h.rest, by simp [lenOf, e3], ?_⟩, e3, ho, e2, fun hh => tick_halt d hh, rfl⟩
      simp only [e2]
      exact h.file

theorem open0_wj (h : WF o d may) (ho : d.off = false) (hm : mget nmWal d.fs = none) :
    (∃ r1, d.open0 = (r1, .ok) ∧ WJ o r1 Ws.nil (-1) [Ws.nil] ∧ (d.halt = -1 → r1.halt = -1) ∧ r1.room = d.room) ∨ (∃ r1, d.open0 = (r1, .down) ∧ WF o r1 may ∧ d.halt ≠ -1 ∧ r1.room = d.room) := by
  unfold DSt.open0
  rcases remove_wf h ho with ⟨h1, h2, h3, h4, h5⟩ | ⟨h1, h2, h3, h4, h5, h6, h7⟩
  · rw [if_pos h2]
    exact .inr ⟨_, rfl, h3, h4, h5⟩
  · rw [if_neg (by rw [h1]; simp)]
    exact .inl ⟨_, rfl, ⟨h2.room, h2.nodup, h2.rest, h3, h4, .inl ⟨h5.trans hm, rfl, rfl, .head _⟩⟩, h6, h7⟩
/-- the file is synced by Open -/
theorem osync_wj (h : WF o d may) (hn : mget nmNew d.fs = none) (ho : d.off = false) {f : Fil} {evs : List Ev} (h1 : mget nmWal d.fs = some f) (h2 : f.b = fileOf evs) (h4 : Ws.nil.Mays evs) (h5 : f.b.length ≤ 30000) :
    (∃ r1, d.sync nmWal = (r1, .ok) ∧ WJ o r1 (Ws.nil.plays evs) ((fileOf evs).length : Int) [Ws.nil.plays evs] ∧ (d.halt = -1 → r1.halt = -1) ∧ r1.room = d.room) ∨ (∃ r1, d.sync nmWal = (r1, .down) ∧ WF o r1 may ∧ d.halt ≠ -1 ∧ r1.room = d.room) := by
  have hs : d.sync nmWal = if d.halt = 0 then (d.fall, .down) else ({ d.tick with fs := mput nmWal ⟨f.b, f.b.length⟩ d.fs }, .ok) := by
    unfold DSt.sync
    rw [if_neg (by simp [ho]), h1]
  rw [hs]
  by_cases h0 : d.halt = 0
  · rw [if_pos h0]
    exact .inr ⟨_, rfl, h.same rfl rfl, by omega, rfl⟩
  · rw [if_neg h0]
    refine .inl ⟨_, rfl, ⟨h.room, nodup_mput h.nodup, by simpa [others_mput (.inl rfl)] using h.rest, ?_, ho, .inr ⟨⟨f.b, f.b.length⟩, evs, evs.length, ?_, h2, h4, rfl, by rw [h2], h5, Nat.le_refl _, by rw [List.take_length, ← h2]; exact Nat.le_refl _, Nat.le_refl _, fun j hj1 hj2 => ?_⟩⟩, fun hh => tick_halt d hh, rfl⟩
    · simp only
      rw [mget_mput, if_neg (by decide)]
      exact hn
    · simp only
      rw [mget_mput, if_pos rfl]
    · obtain rfl : j = evs.length := by omega
      rw [List.take_length]
      exact .head _
theorem open1_wj (h : WF o d may) (ho : d.off = false) {f : Fil} {evs : List Ev} {t : List UInt8} {k : Nat} (h1 : mget nmWal d.fs = some f) (h2 : f.b = fileOf evs ++ t) (h4 : Ws.nil.Mays evs) (h5 : f.b.length ≤ 30000) (h6 : k ≤ evs.length) (h7 : (fileOf (evs.take k)).length ≤ f.sure) (_ : f.sure ≤ f.b.length) (h9 : ∀ j, k ≤ j → j ≤ evs.length → Ws.nil.plays (evs.take j) ∈ may) :
    (∃ r1, d.open1 (fileOf evs).length f.b.length = (r1, .ok) ∧ WJ o r1 (Ws.nil.plays evs) ((fileOf evs).length : Int) [Ws.nil.plays evs] ∧ (d.halt = -1 → r1.halt = -1) ∧ r1.room = d.room) ∨ (∃ r1, d.open1 (fileOf evs).length f.b.length = (r1, .down) ∧ WF o r1 may ∧ d.halt ≠ -1 ∧ r1.room = d.room) := by
  unfold DSt.open1
  rcases remove_wf h ho with ⟨a1, a2, a3, a4, a5⟩ | ⟨a1, a2, a3, a4, a5, a6, a7⟩
  · rw [if_pos a2]
    exact .inr ⟨_, rfl, a3, a4, a5⟩
  rw [if_neg (by rw [a1]; simp)]
  obtain ⟨d1, hd1⟩ : ∃ d1, d1 = (d.remove nmNew).1 := ⟨_, rfl⟩
  rw [← hd1] at a2 a3 a4 a5 a6 a7 ⊢
  rw [h1] at a5
  have hlen : f.b.length = (fileOf evs).length + t.length := by rw [h2]; simp
  by_cases hlt : (fileOf evs).length < f.b.length
  · rw [if_pos hlt]
    have htr : d1.trunc nmWal ((fileOf evs).length : Nat) = if d1.halt = 0 then (d1.fall, .down) else ({ d1.tick with fs := mput nmWal ⟨fileOf evs, min f.sure (fileOf evs).length⟩ d1.fs }, .ok) := by
      unfold DSt.trunc
      rw [if_neg (by simp [a4]), a5]
      simp only
      rw [if_neg (by omega)]
      split
      · rfl
      · have e1 : (((fileOf evs).length : Nat) : Int).toNat = (fileOf evs).length := by omega
        rw [e1, h2, List.take_left]
    rw [htr]
    by_cases h0 : d1.halt = 0
    · rw [if_pos h0, if_pos (c := ((d1.fall, DRes.down).2.isOk = false)) rfl]
      exact .inr ⟨_, rfl, a2.same rfl rfl, fun hh => by have := a6 hh; omega, a7⟩
    · rw [if_neg h0, if_neg (by simp [DRes.isOk])]
      simp only
      obtain ⟨d2, hd2⟩ : ∃ d2 : DSt, d2 = { d1.tick with fs := mput nmWal ⟨fileOf evs, min f.sure (fileOf evs).length⟩ d1.fs } := ⟨_, rfl⟩
      have hf2 : mget nmWal d2.fs = some ⟨fileOf evs, min f.sure (fileOf evs).length⟩ := by rw [hd2]; simp only; rw [mget_mput, if_pos rfl]
      have hn2 : mget nmNew d2.fs = none := by rw [hd2]; simp only; rw [mget_mput, if_neg (by decide)]; exact a3
      have hp := fileOf_part evs k
      have W2 : WF o d2 may := by
        refine ⟨by rw [hd2]; exact a2.room, by rw [hd2]; exact nodup_mput a2.nodup, by rw [hd2]; simpa [others_mput (.inl rfl)] using a2.rest, by simp [lenOf, hn2], .inr ⟨_, evs, [], k, hf2, by simp, Tail.nil, h4, by simp only; omega, h6, by simp only; omega, by simp only; omega, h9⟩⟩
      rw [← hd2]
      have hh2 : d.halt = -1 → d2.halt = -1 := fun hh => by rw [hd2]; exact tick_halt d1 (a6 hh)
      have hr2 : d2.room = d.room := by rw [hd2]; exact a7
      rcases osync_wj W2 hn2 (by rw [hd2]; exact a4) hf2 rfl h4 (by simp only; omega) with ⟨r1, b1, b2, b3, b4⟩ | ⟨r1, b1, b2, b3, b4⟩
      · exact .inl ⟨r1, b1, b2, fun hh => b3 (hh2 hh), b4.trans hr2⟩
      · exact .inr ⟨r1, b1, b2, fun hh => b3 (hh2 hh), b4.trans hr2⟩
  · rw [if_neg hlt]
    have ht0 : t = [] := List.eq_nil_of_length_eq_zero (by omega)
    rw [ht0, List.append_nil] at h2
    rcases osync_wj a2 a3 a4 a5 h2 h4 h5 with ⟨r1, b1, b2, b3, b4⟩ | ⟨r1, b1, b2, b3, b4⟩
    · exact .inl ⟨r1, b1, b2, fun hh => b3 (a6 hh), b4.trans a7⟩
    · exact .inr ⟨r1, b1, b2, fun hh => b3 (a6 hh), b4.trans a7⟩
end
end Go.Proofs.YtfgmbjdeimallaaGreatDoor
