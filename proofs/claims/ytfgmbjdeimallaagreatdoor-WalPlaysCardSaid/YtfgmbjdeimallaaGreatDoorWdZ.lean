/- The wal's calls: memory and plain data joined. -/
import Derived.Test.YtfgmbjdeimallaaGreatDoorWjZ
import Derived.Test.YtfgmbjdeimallaaGreatDoorDkZ

namespace Go.Proofs.YtfgmbjdeimallaaGreatDoor
open Go.RowKit Go.Lib

/-- how many bytes entries take at most -/
def entSum (l : List Ent) : Nat := (l.map fun x => x.sql.size + 42).sum
theorem entSum_append (a b : List Ent) : entSum (a ++ b) = entSum a + entSum b := by simp [entSum]
theorem entSum_take (a : List Ent) (k : Nat) : entSum (a.take k) ≤ entSum a := by
  have := entSum_append (a.take k) (a.drop k)
  rw [List.take_append_drop] at this
  omega
theorem entSum_drop (a : List Ent) (k : Nat) : entSum (a.drop k) ≤ entSum a := by
  have := entSum_append (a.take k) (a.drop k)
  rw [List.take_append_drop] at this
  omega
theorem fileOf_ents : ∀ l : List Ent, (∀ x ∈ l, x.May) → (fileOf (l.map .ent)).length ≤ entSum l
  | [], _ => by simp [fileOf]
  | x :: l, h => by
    have ih := fileOf_ents l (fun y hy => h y (.tail _ hy))
    have hx := Ev.bytes_length (s := Ws.nil) Ws.Ok.nil (by simp) (e := .ent x) (h x (.head _))
    simp only at hx
    rw [List.map_cons, fileOf_cons, List.length_append, frame_length]
    simp only [entSum, List.map_cons, List.sum_cons] at ih ⊢
    omega
theorem fileOf_anew {s : Ws} (h : s.Ok) : (fileOf (anewEvs s)).length ≤ entSum s.es + 50 := by
  have h1 := fileOf_ents s.es h.es
  have h2 : (Ev.hard s.term s.vote).bytes.length ≤ 13 := Ev.bytes_length (s := Ws.nil) Ws.Ok.nil (by simp) (e := .hard s.term s.vote) ⟨h.term, h.vote⟩
  have h3 : (Ev.drop s.base s.bt).bytes.length ≤ 21 := Ev.bytes_length (s := Ws.nil) Ws.Ok.nil (by simp) (e := .drop s.base s.bt) ⟨by simp, h.base, h.bt⟩
  unfold anewEvs
  rw [fileOf_cons, fileOf_cons, List.length_append, List.length_append, frame_length, frame_length]
  omega

section
variable {w : World} {wb db : Nat} {s : Ws} {z : Int} {E L : List Nat} {d : DSt} {o : List (List UInt8 × Fil)} {may may' : List Ws}
def OpenP (w : World) (L : List Nat) (db : Nat) (o : List (List UInt8 × Fil)) (d : DSt) (may : List Ws) (e : Ending) (w' : World) : Prop :=
  ∃ pv ev L' d' r, e = .returned (.tuple #[pv, ev]) ∧ DE w' ev r ∧ Disk w' L' db d' ∧ Keeps L w w' ∧ (∀ x ∈ L', x ∈ L ∨ w.heap.size ≤ x) ∧ d'.count ≤ d.count + 3 ∧ d'.room = d.room ∧
    ((r = .ok ∧ ∃ wb E s z, pv = .pointer (some ⟨wb, 0, none⟩) ∧ WalAt w' wb db s z E ∧ w.heap.size ≤ wb ∧ (∀ x ∈ E, w.heap.size ≤ x) ∧ s ∈ may ∧ WJ o d' s z [s] ∧ (d.halt = -1 → d'.halt = -1)) ∨ (r = .down ∧ WF o d' may ∧ d.halt ≠ -1))
theorem open0_count (d : DSt) : d.open0.1.count ≤ d.count + 3 := by
  have := remove_count d nmNew
  unfold DSt.open0
  split <;> (simp only; omega)
theorem open1_count (d : DSt) (k n : Nat) : (d.open1 k n).1.count ≤ d.count + 3 := by
  have h1 := remove_count d nmNew
  have h2 := trunc_count (d.remove nmNew).1 nmWal k
  have h3 := sync_count ((d.remove nmNew).1.trunc nmWal k).1 nmWal
  have h4 := sync_count (d.remove nmNew).1 nmWal
  unfold DSt.open1
  split
  · simp only; omega
  · split
    · split <;> omega
    · omega
theorem wopen (h : Disk w L db d) (hc : d.count < 1000000) (hF : WF o d may) (ho : d.off = false) :
    Calls Tryz.prog 10 #[.pointer (some ⟨db, 0, none⟩)] w (OpenP w L db o d may) := by
  rcases hF.file with ⟨h1, h2⟩ | ⟨f, evs, t, k, h1, h2, h3, h4, h5, h6, h7, h8, h9⟩
  · refine (open_none h (by omega) h1).mono ?_
    rintro e w' ⟨pv, ev, L', rfl, hE, hD, hk, hL, hok⟩
    have hct := open0_count d
    rcases open0_wj hF ho h1 with ⟨r1, e1, a1, a2, a3⟩ | ⟨r1, e1, a1, a2, a3⟩
    · rw [e1] at hE hD hok hct
      obtain ⟨wb, E, b1, b2, b3, b4⟩ := hok rfl
      exact ⟨pv, ev, L', r1, .ok, rfl, hE, hD, hk, hL, hct, a3, .inl ⟨rfl, wb, E, _, _, b1, b2, b3, b4, h2, a1, a2⟩⟩
    · rw [e1] at hE hD hct
      exact ⟨pv, ev, L', r1, .down, rfl, hE, hD, hk, hL, hct, a3, .inr ⟨rfl, a1, a2⟩⟩
  · refine (open_file h (by omega) h1 evs t h2 h4 h3 (by omega)).mono ?_
    rintro e w' ⟨pv, ev, L', rfl, hE, hD, hk, hL, hok⟩
    have hct := open1_count d (fileOf evs).length f.b.length
    have hmem := h9 evs.length h6 (Nat.le_refl _)
    rw [List.take_length] at hmem
    rcases open1_wj hF ho h1 h2 h4 h5 h6 h7 h8 h9 with ⟨r1, e1, a1, a2, a3⟩ | ⟨r1, e1, a1, a2, a3⟩
    · rw [e1] at hE hD hok hct
      obtain ⟨wb, E, b1, b2, b3, b4⟩ := hok rfl
      exact ⟨pv, ev, L', r1, .ok, rfl, hE, hD, hk, hL, hct, a3, .inl ⟨rfl, wb, E, _, _, b1, b2, b3, b4, hmem, a1, a2⟩⟩
    · rw [e1] at hE hD hct
      exact ⟨pv, ev, L', r1, .down, rfl, hE, hD, hk, hL, hct, a3, .inr ⟨rfl, a1, a2⟩⟩

/-- what Sync leaves -/
def SyP (w : World) (L E : List Nat) (wb db : Nat) (o : List (List UInt8 × Fil)) (d : DSt) (s : Ws) (z : Int) (may : List Ws) (e : Ending) (w' : World) : Prop :=
  ∃ ev L' E' d' r, e = .returned ev ∧ DE w' ev r ∧ Disk w' L' db d' ∧ WalAt w' wb db s z E' ∧ Keeps (wb :: (L ++ E)) w w' ∧ (∀ x ∈ L', x ∈ L ∨ w.heap.size ≤ x) ∧ (∀ x ∈ E', x ∈ E ∨ w.heap.size ≤ x) ∧ d'.count ≤ d.count + 4 ∧ d'.room = d.room ∧
    ((r = .ok ∧ WJ o d' s z [s] ∧ (d.halt = -1 → d'.halt = -1)) ∨ (r = .down ∧ WF o d' may ∧ d.halt ≠ -1))
/-- what a call that lays frames leaves -/
def DoP (w : World) (L E : List Nat) (wb db : Nat) (o : List (List UInt8 × Fil)) (d : DSt) (s' : Ws) (may' : List Ws) (e : Ending) (w' : World) : Prop :=
  ∃ ev L' E' d' z' r, e = .returned ev ∧ DE w' ev r ∧ Disk w' L' db d' ∧ Keeps (wb :: (L ++ E)) w w' ∧ (∀ x ∈ L', x ∈ L ∨ w.heap.size ≤ x) ∧ (∀ x ∈ E', x ∈ E ∨ w.heap.size ≤ x) ∧ d'.count ≤ d.count + 4 ∧ d'.room = d.room ∧
    ((r = .ok ∧ WalAt w' wb db s' z' E' ∧ WJ o d' s' z' may' ∧ (d.halt = -1 → d'.halt = -1)) ∨ (r = .down ∧ WF o d' may' ∧ d.halt ≠ -1))
theorem dop_lays (hO : OkO o) (hJ : WJ o d s z may) (l : List Ev) (hl : s.Mays l) (hA : entSum s.es ≤ 14900) (hB : (fileOf l).length ≤ 15000) (hm : ∀ x ∈ may, x ∈ may') (hm2 : ∀ j, j ≤ l.length → s.plays (l.take j) ∈ may') {e : Ending} {w' : World} (h : WPost w L E wb db s (s.plays l) (d.lays s z (fileOf l)) e w') : DoP w L E wb db o d (s.plays l) may' e w' := by
  obtain ⟨ev, L', E', rfl, hE, hD, hW, hk, hL, hE'⟩ := h
  have hct := lays_count d s z (fileOf l)
  have hA2 := fileOf_anew hJ.ok
  rcases lays_wj hO hJ l hl (by omega) hB hm hm2 with ⟨r1, z1, e1, a1, a2, a3⟩ | ⟨r1, z1, e1, a1, a2, a3⟩
  · rw [e1] at hE hD hW hct
    exact ⟨ev, L', E', r1, z1, .ok, rfl, hE, hD, hk, hL, hE', hct, a3, .inl ⟨rfl, by simpa [DRes.isOk] using hW, a1, a2⟩⟩
  · rw [e1] at hE hD hW hct
    exact ⟨ev, L', E', r1, z1, .down, rfl, hE, hD, hk, hL, hE', hct, a3, .inr ⟨rfl, a1, a2⟩⟩

theorem wsethard_do (h : WalAt w wb db s z E) (hD : Disk w L db d) (hO : OkO o) (hJ : WJ o d s z may) (hc : d.count < 1000000) (hA : entSum s.es ≤ 14900) (t : Nat) (v : Int) (hv : (Ev.hard t v).May s) (hm : ∀ x ∈ may, x ∈ may') (hm2 : s.ev (.hard t v) ∈ may') :
    Calls Tryz.prog 13 #[.pointer (some ⟨wb, 0, none⟩), .agg #[.int .u64 (t : Nat), .int .i64 v]] w (DoP w L E wb db o d (s.ev (.hard t v)) may') := by
  have h1 := hJ.most
  have h2 := fileOf_anew hJ.ok
  have hbl : (Ev.hard t v).bytes.length ≤ 13 := Ev.bytes_length hJ.ok (by omega) hv
  refine (wsethard h hD hJ.ok hc (by omega) (by omega) t v hv.1 hv.2).mono fun e w' hp => ?_
  refine dop_lays (s := s) hO hJ [.hard t v] ⟨hv, trivial⟩ hA (by rw [fileOf1]; omega) hm (fun j hj => ?_) hp
  match j, hj with
  | 0, _ => exact hm _ hJ.here
  | 1, _ => exact hm2
  | _ + 2, hj => simp at hj
theorem wcut_do (h : WalAt w wb db s z E) (hD : Disk w L db d) (hO : OkO o) (hJ : WJ o d s z may) (hc : d.count < 1000000) (hA : entSum s.es ≤ 14900) (n : Nat) (hv : (Ev.cut n).May s) (hm : ∀ x ∈ may, x ∈ may') (hm2 : s.ev (.cut n) ∈ may') :
    Calls Tryz.prog 22 #[.pointer (some ⟨wb, 0, none⟩), .int .u64 (n : Nat)] w (DoP w L E wb db o d (s.ev (.cut n)) may') := by
  have h1 := hJ.most
  have h2 := fileOf_anew hJ.ok
  have hbl : (Ev.cut n).bytes.length ≤ 11 := Ev.bytes_length hJ.ok (by omega) hv
  refine (wcut h hD hJ.ok (by omega) hc (by omega) (by omega) n hv).mono fun e w' hp => ?_
  refine dop_lays (s := s) hO hJ [.cut n] ⟨hv, trivial⟩ hA (by rw [fileOf1]; omega) hm (fun j hj => ?_) hp
  match j, hj with
  | 0, _ => exact hm _ hJ.here
  | 1, _ => exact hm2
  | _ + 2, hj => simp at hj
theorem wdrop_do (h : WalAt w wb db s z E) (hD : Disk w L db d) (hO : OkO o) (hJ : WJ o d s z may) (hc : d.count < 1000000) (hA : entSum s.es ≤ 14900) (i t : Nat) (hv : (Ev.drop i t).May s) (hm : ∀ x ∈ may, x ∈ may') (hm2 : s.ev (.drop i t) ∈ may') :
    Calls Tryz.prog 23 #[.pointer (some ⟨wb, 0, none⟩), .int .u64 (i : Nat), .int .u64 (t : Nat)] w (DoP w L E wb db o d (s.ev (.drop i t)) may') := by
  have h1 := hJ.most
  have h2 := fileOf_anew hJ.ok
  have hbl : (Ev.drop i t).bytes.length ≤ 21 := Ev.bytes_length hJ.ok (by omega) hv
  refine (wdrop h hD hJ.ok (by omega) hc (by omega) (by omega) i t hv).mono fun e w' hp => ?_
  refine dop_lays (s := s) hO hJ [.drop i t] ⟨hv, trivial⟩ hA (by rw [fileOf1]; omega) hm (fun j hj => ?_) hp
  match j, hj with
  | 0, _ => exact hm _ hJ.here
  | 1, _ => exact hm2
  | _ + 2, hj => simp at hj
theorem wappend_do (h : WalAt w wb db s z E) (hD : Disk w L db d) (hO : OkO o) (hJ : WJ o d s z may) (hc : d.count < 1000000) (hA : entSum s.es ≤ 14900) (la : Option Addr) (lc : Nat) (l : List Ent) (hR : Re w la lc l) (hm0 : ∀ x ∈ l, x.May) (hlen : entSum l ≤ 14900) (hlo : ∀ ad, la = some ad → l ≠ [] → ad.block ∉ wb :: (L ++ E)) (hm : ∀ x ∈ may, x ∈ may') (hm2 : ∀ j, j ≤ l.length → { s with es := s.es ++ l.take j } ∈ may') :
    Calls Tryz.prog 11 #[.pointer (some ⟨wb, 0, none⟩), .slice la l.length lc] w (DoP w L E wb db o d { s with es := s.es ++ l } may') := by
  have h1 := hJ.most
  have h2 := fileOf_anew hJ.ok
  have h3 := fileOf_ents l hm0
  have h4 := fileOf_count (l.map .ent)
  rw [List.length_map] at h4
  rw [← plays_ents l s]
  refine (wappend h hD hJ.ok (by omega) hc (by omega) (by omega) la lc l hR hm0 (by omega) (by omega) hlo).mono fun e w' hp => ?_
  refine dop_lays (s := s) hO hJ (l.map .ent) (mays_ents l s hm0) hA (by omega) hm (fun j hj => ?_) hp
  rw [← List.map_take, plays_ents]
  exact hm2 j (by simpa using hj)
theorem wsync_do (h : WalAt w wb db s z E) (hD : Disk w L db d) (hJ : WJ o d s z may) (hc : d.count < 1000000) :
    Calls Tryz.prog 14 #[.pointer (some ⟨wb, 0, none⟩)] w (SyP w L E wb db o d s z may) := by
  by_cases hz : 0 ≤ z
  · refine (wsync h hD hc hz).mono ?_
    rintro e w' ⟨ev, L', E', rfl, hE, hD', hW, hk, hL, hE'⟩
    have hct := sync_count d nmWal
    rcases sync_wj hJ hz with ⟨r1, e1, a1, a2, a3⟩ | ⟨r1, e1, a1, a2, a3⟩
    · rw [e1] at hE hD' hW hct
      exact ⟨ev, L', E', r1, .ok, rfl, hE, hD', by simpa using hW, hk, hL, hE', by simp only at hct; omega, a3, .inl ⟨rfl, a1, a2⟩⟩
    · rw [e1] at hE hD' hW hct
      exact ⟨ev, L', E', r1, .down, rfl, hE, hD', by simpa using hW, hk, hL, hE', by simp only at hct; omega, a3, .inr ⟨rfl, a1, a2⟩⟩
  · obtain ⟨a1, a2⟩ := sync0_wj hJ (by omega)
    refine (wsync0 h hD hJ.on a2 (by omega)).mono ?_
    rintro e w' ⟨ev, L', E', rfl, hE, hD', hW, hk, hL, hE'⟩
    exact ⟨ev, L', E', d, .ok, rfl, hE, hD', by simpa using hW, hk, hL, hE', by omega, rfl, .inl ⟨rfl, a1, id⟩⟩
end
end Go.Proofs.YtfgmbjdeimallaaGreatDoor
/- The wal's laws: what they know at first. -/

namespace Go.Proofs.YtfgmbjdeimallaaGreatDoor
open Go.RowKit Go.Lib

/-- a wal on a disk that is never halted; all of it was made since w0 -/
structure Sure (w0 w : World) (wb db : Nat) (L E : List Nat) (o : List (List UInt8 × Fil)) (d : DSt) (s : Ws) (z : Int) (may : List Ws) (n : Nat) : Prop where
  disk : Disk w L db d
  wal : WalAt w wb db s z E
  wj : WJ o d s z may
  halt : d.halt = -1
  count : d.count ≤ n
  keeps : Keeps [] w0 w
  low : ∀ x ∈ wb :: (L ++ E), w0.heap.size ≤ x
section
variable {w0 w w' : World} {wb db : Nat} {L E : List Nat} {o : List (List UInt8 × Fil)} {d : DSt} {s s' : Ws} {z : Int} {may may' : List Ws} {n : Nat} {e : Ending}
theorem Sure.keep0 (h : Sure w0 w wb db L E o d s z may n) (hk : Keeps [] w w') : Sure w0 w' wb db L E o d s z may n :=
  ⟨h.disk.keep0 hk, h.wal.keep0 hk, h.wj, h.halt, h.count, h.keeps.trans hk, h.low⟩
theorem Sure.lt (h : Sure w0 w wb db L E o d s z may n) : ∀ x ∈ wb :: (L ++ E), x < w.heap.size := by
  intro x hx
  rcases List.mem_cons.1 hx with rfl | hx
  · exact h.wal.lt
  · rcases List.mem_append.1 hx with hx | hx
    · exact h.disk.lt x hx
    · exact h.wal.ltE x hx
theorem Sure.did (h : Sure w0 w wb db L E o d s z may n) (hp : DoP w L E wb db o d s' may' e w') : ∃ L' E' d' z', e = .returned .nilIface ∧ Sure w0 w' wb db L' E' o d' s' z' may' (n + 4) := by
  obtain ⟨ev, L', E', d', z', r, rfl, hE, hD, hk, hL, hE', hc, hr, hh⟩ := hp
  have hlow := h.low
  rcases hh with ⟨rfl, hW, hJ, h1⟩ | ⟨rfl, _, h1⟩
  · obtain rfl : ev = .nilIface := hE
    refine ⟨L', E', d', z', rfl, hD, hW, hJ, h1 h.halt, by have := h.count; omega, h.keeps.step hk (fun x hx => .inr (hlow x hx)), fun x hx => ?_⟩
    have hs := h.keeps.size
    rcases List.mem_cons.1 hx with rfl | hx
    · exact hlow _ (.head _)
    · rcases List.mem_append.1 hx with hx | hx
      · rcases hL x hx with h | h
        · exact hlow x (.tail _ (List.mem_append.2 (.inl h)))
        · omega
      · rcases hE' x hx with h | h
        · exact hlow x (.tail _ (List.mem_append.2 (.inr h)))
        · omega
  · exact absurd h.halt h1
theorem Sure.synced (h : Sure w0 w wb db L E o d s z may n) (hp : SyP w L E wb db o d s z may e w') : ∃ L' E' d', e = .returned .nilIface ∧ Sure w0 w' wb db L' E' o d' s z [s] (n + 4) := by
  obtain ⟨ev, L', E', d', r, rfl, hE, hD, hW, hk, hL, hE', hc, hr, hh⟩ := hp
  have hlow := h.low
  rcases hh with ⟨rfl, hJ, h1⟩ | ⟨rfl, _, h1⟩
  · obtain rfl : ev = .nilIface := hE
    refine ⟨L', E', d', rfl, hD, hW, hJ, h1 h.halt, by have := h.count; omega, h.keeps.step hk (fun x hx => .inr (hlow x hx)), fun x hx => ?_⟩
    have hs := h.keeps.size
    rcases List.mem_cons.1 hx with rfl | hx
    · exact hlow _ (.head _)
    · rcases List.mem_append.1 hx with hx | hx
      · rcases hL x hx with h | h
        · exact hlow x (.tail _ (List.mem_append.2 (.inl h)))
        · omega
      · rcases hE' x hx with h | h
        · exact hlow x (.tail _ (List.mem_append.2 (.inr h)))
        · omega
  · exact absurd h.halt h1
/-- Open on a disk without a halt -/
theorem OpenP.sure (hk0 : Keeps [] w0 w) (hL0 : ∀ x ∈ L, w0.heap.size ≤ x) (hh : d.halt = -1) (hc : d.count ≤ n) (hp : OpenP w L db o d may e w') : ∃ wb L' E d' s z, e = .returned (.tuple #[.pointer (some ⟨wb, 0, none⟩), .nilIface]) ∧ s ∈ may ∧ Sure w0 w' wb db L' E o d' s z [s] (n + 3) := by
  obtain ⟨pv, ev, L', d', r, rfl, hE, hD, hk, hL, hcc, hr, h1⟩ := hp
  rcases h1 with ⟨rfl, wb, E, s, z, rfl, hW, hwb, hE2, hs, hJ, h2⟩ | ⟨rfl, _, h2⟩
  · obtain rfl : ev = .nilIface := hE
    have hs0 := hk0.size
    refine ⟨wb, L', E, d', s, z, rfl, hs, hD, hW, hJ, h2 hh, by omega, hk0.step hk (fun x hx => .inr (hL0 x hx)), fun x hx => ?_⟩
    rcases List.mem_cons.1 hx with rfl | hx
    · omega
    · rcases List.mem_append.1 hx with hx | hx
      · rcases hL x hx with h | h
        · exact hL0 x h
        · omega
      · have := hE2 x hx; omega
  · exact absurd hh h2

theorem num_any (t : Nat) (w : World) : Calls Tryz.prog 25 #[.int .u64 (t : Nat)] w fun e w' => e = .returned (.agg (Ent.cells ⟨t, 0, 0, 0, ⟨#[]⟩⟩)) ∧ Keeps [] w w' := by
  have hX := Blk.fresh w 65 #[.int .u64 0, .int .i64 0, .int .u64 0, .int .u64 0, .string ⟨#[]⟩]
  have hk := (Keeps.refl [] w).alloc (.cells #[.int .u64 0, .int .i64 0, .int .u64 0, .int .u64 0, .string ⟨#[]⟩] 65)
  go_enter Tryz.func25, Tryz.ntmps25
  go_wp2_with (refine wpList_store_agg rfl rfl 65 _ _ rfl w.heap.size 0 rfl (Ent.cells ⟨t, 0, 0, 0, ⟨#[]⟩⟩).toList rfl 65 _ hX Tryz.sizeE (by simp) rfl _ rfl ?_; intro w6 hM6 hk6)
  refine bodyPost_ret (results_c rfl rfl hM6 Tryz.underlying65 rfl Tryz.sizeE) rfl ⟨rfl, hk.step hk6 (fun x hx => .inr (by simp at hx; omega))⟩

set_option maxRecDepth 100000 in
set_option maxHeartbeats 1000000 in
/-- the same entries, wherever they lie -/
theorem ents_same (ao bo : Option Addr) (c d : Nat) (l : List Ent) (w : World) (h : Re w ao c l) (h' : Re w bo d l) :
    Calls Tryz.prog 19 #[.slice ao l.length c, .slice bo l.length d] w fun e w' => e = .returned (.bool true) ∧ Keeps [] w w' := by
  have hmx := h.most
  have hcp := h.cap
  unfold maxLen at hmx
  have HL := Lib.hid (And.intro h h')
  clear h h'
  go_enter Tryz.func19, Tryz.ntmps19
  go_wp2_with fail
  go_loopw [5] (fun v wr => ∃ k : Nat, k ≤ l.length ∧ v = .int .i64 (k : Int) ∧ Keeps [] w wr) (fun v _ => l.length - (intOf v).toNat)
  case atStart => exact ⟨0, by omega, rfl, Keeps.refl _ _⟩
  case round =>
    obtain ⟨k, hk, rfl, hkk⟩ := hrel
    by_cases hkl : k < l.length
    rotate_left
    · have n1 : ¬ ((k : Int) < (l.length : Int)) := by omega
      go_wp2_with fail
      go_ret
      exact ⟨rfl, hkk⟩
    have n1 : (k : Int) < (l.length : Int) := by omega
    have s1 : IntKind.i64.wrap ((k : Int) + 1) = k + 1 := IntWalk.i64_in _ (by omega)
    have hv := List.getElem?_eq_getElem hkl
    generalize l[k] = v at hv
    obtain ⟨bb, o, rfl, c0, c1, c2, c3, c4⟩ := Re.at (HL.out.1.keep0 hkk) hv
    obtain ⟨bb', o', rfl, d0, d1, d2, d3, d4⟩ := Re.at (HL.out.2.keep0 hkk) hv
    have HV := Lib.hid hv
    clear hv
    go_wp2_with fail
    go_quiet (fail)
    go_wp2_with fail
    go_roundw
    case rel => exact ⟨k + 1, by omega, by simp, hkk.drewN _⟩
    case measure => simp [intOf]; omega
theorem sl_of_ownW {w : World} {base sz n c : Nat} {e : TypeId} {ao : Option Addr} {xs : List Value} (h : w.ownsRow base e sz (.slice ao n c) n xs) (h1 : ∀ u ∈ xs, u.oneCell' = true) : Sl w sz ao n c xs := by
  obtain ⟨ao', c', he, hS, _⟩ := own_sl h h1
  simp only [Value.slice.injEq, true_and] at he
  obtain ⟨rfl, rfl⟩ := he
  exact hS
/-- a row of entries that was just made -/
theorem re_lit {w : World} {b : Nat} {l : List Ent} {cs : Array Value} (h : Blk w b 65 cs) (he : cs.toList = ents l) (hl : l.length ≤ 1000) : Re w (some ⟨b, 0, none⟩) l.length l := by
  have h1 := ents_length l
  have := Sl.of_blk (n := l.length) (sz := 5) h (by have := congrArg List.length he; simpa [h1] using this) (by unfold maxLen; omega) (by rw [he]; exact ents_one l)
  rw [he] at this
  exact this
end
end Go.Proofs.YtfgmbjdeimallaaGreatDoor
/- The wal's laws: known. -/

namespace Go.Proofs.YtfgmbjdeimallaaGreatDoor
open Go.RowKit Go.Lib

theorem may_num (t : Nat) (h : t < 18446744073709551616) : ((⟨t, 0, 0, 0, ⟨#[]⟩⟩ : Ent)).May := ⟨by simp [entOk, ByteArray.size], h, by simp, by simp⟩
theorem okO_nil : OkO [] := ⟨by simp [usedOf], by simp, by simp⟩
theorem wf_new (r : Nat) (hr : 65536 ≤ r) (n : Nat) : WF [] ⟨[], r, n, -1, false⟩ [Ws.nil] := ⟨hr, by simp, rfl, by simp [lenOf, mget], .inl ⟨rfl, .head _⟩⟩

set_option maxRecDepth 100000 in
set_option maxHeartbeats 8000000 in
theorem wlknown (w : World) : Calls Tryz.prog 5 #[] w fun e w' => e = .returned (.bool true) ∧ Keeps [] w w' := by
  go_enter Tryz.func5, Tryz.ntmps5
  go_wp2_with fail
  refine (dnew 65536 (by omega) w).mono ?_
  rintro e w1 ⟨db, L1, rfl, hD, hk1, hL⟩
  have hO := wopen hD (by decide) (wf_new 65536 (by omega) 0) rfl
  have HO := Lib.hid (And.intro hO (And.intro hk1 hL))
  clear hO hD hk1 hL
  go_wp2_with fail
  refine HO.out.1.mono ?_
  intro e w2 hp
  obtain ⟨wb, L2, E2, d2, s2, z2, rfl, hs, hS⟩ := hp.sure HO.out.2.1 HO.out.2.2 rfl (n := 0) (Nat.le_refl _)
  obtain rfl : s2 = Ws.nil := by simpa using hs
  have HS := Lib.hid hS
  clear hp hs hS
  go_wp2_with fail
  refine (num_any 1 w2).mono ?_
  rintro e w3 ⟨rfl, hk3⟩
  go_wp2_with fail
  refine (num_any 2 w3).mono ?_
  rintro e w4 ⟨rfl, hk4⟩
  have hS4 := (HS.out.keep0 hk3).keep0 hk4
  have hkL := (Keeps.refl [] w4).alloc (.cells #[.int .u64 1, .int .i64 0, .int .u64 0, .int .u64 0, .string ⟨#[]⟩, .int .u64 2, .int .i64 0, .int .u64 0, .int .u64 0, .string ⟨#[]⟩] 65)
  have hS5 := hS4.keep0 hkL
  have hR5 : Re _ _ 2 [(⟨1, 0, 0, 0, ⟨#[]⟩⟩ : Ent), (⟨2, 0, 0, 0, ⟨#[]⟩⟩ : Ent)] := re_lit (Blk.fresh w4 65 #[.int .u64 1, .int .i64 0, .int .u64 0, .int .u64 0, .string ⟨#[]⟩, .int .u64 2, .int .i64 0, .int .u64 0, .int .u64 0, .string ⟨#[]⟩]) (by simp [ents]) (by simp)
  have hlt4 := hS4.lt
  have hA := wappend_do (may' := [Ws.nil, (⟨0, -1, 0, 0, [(⟨1, 0, 0, 0, ⟨#[]⟩⟩ : Ent)]⟩ : Ws), (⟨0, -1, 0, 0, [(⟨1, 0, 0, 0, ⟨#[]⟩⟩ : Ent), (⟨2, 0, 0, 0, ⟨#[]⟩⟩ : Ent)]⟩ : Ws)]) hS5.wal hS5.disk okO_nil hS5.wj (by have := hS5.count; omega) (by decide) _ 2 _ hR5 (by intro x hx; simp at hx; rcases hx with rfl | rfl <;> exact may_num _ (by decide)) (by decide) (fun ad e _ hx => by cases e; exact absurd (hlt4 _ hx) (Nat.lt_irrefl _)) (by simp) (by
    intro j hj
    simp only [List.length_cons, List.length_nil] at hj
    rcases (by omega : j = 0 ∨ j = 1 ∨ j = 2) with rfl | rfl | rfl <;> simp)
  have HA := Lib.hid (And.intro hA hS5)
  clear hS4 hkL hS5 hR5 hlt4 hA hk3 hk4 HS
  go_wp2_with fail
  refine HA.out.1.mono ?_
  intro e w6 hp
  obtain ⟨L6, E6, d6, z6, rfl, hS60⟩ := HA.out.2.did hp
  have hS6 : Sure w w6 wb db L6 E6 [] d6 (⟨0, -1, 0, 0, [(⟨1, 0, 0, 0, ⟨#[]⟩⟩ : Ent), (⟨2, 0, 0, 0, ⟨#[]⟩⟩ : Ent)]⟩ : Ws) z6 _ _ := hS60
  have HS := Lib.hid (And.intro (wsync_do hS6.wal hS6.disk hS6.wj (by have := hS6.count; omega)) hS6)
  clear hp hS6 hS60 HA
  go_wp2_with fail
  refine HS.out.1.mono ?_
  intro e w7 hp
  obtain ⟨L7, E7, d7, rfl, hS7⟩ := HS.out.2.synced hp
  have hC := wcut_do (may' := [(⟨0, -1, 0, 0, [(⟨1, 0, 0, 0, ⟨#[]⟩⟩ : Ent), (⟨2, 0, 0, 0, ⟨#[]⟩⟩ : Ent)]⟩ : Ws), (⟨0, -1, 0, 0, [(⟨1, 0, 0, 0, ⟨#[]⟩⟩ : Ent)]⟩ : Ws)]) hS7.wal hS7.disk okO_nil hS7.wj (by have := hS7.count; omega) (by decide) 2 (by simp [Ev.May, Ws.last]) (by simp) (by simp [Ws.ev])
  have HC := Lib.hid (And.intro hC hS7)
  clear hp hS7 hC HS
  go_wp2_with fail
  refine HC.out.1.mono ?_
  intro e w8 hp
  obtain ⟨L8, E8, d8, z8, rfl, hS80⟩ := HC.out.2.did hp
  have hS8 : Sure w w8 wb db L8 E8 [] d8 (⟨0, -1, 0, 0, [(⟨1, 0, 0, 0, ⟨#[]⟩⟩ : Ent)]⟩ : Ws) z8 _ _ := hS80
  have HS := Lib.hid hS8
  clear hp hS8 hS80 HC
  go_wp2_with fail
  refine (num_any 3 w8).mono ?_
  rintro e w9 ⟨rfl, hk9⟩
  have hS4 := HS.out.keep0 hk9
  have hkL := (Keeps.refl [] w9).alloc (.cells #[.int .u64 3, .int .i64 0, .int .u64 0, .int .u64 0, .string ⟨#[]⟩] 65)
  have hS5 := hS4.keep0 hkL
  have hR5 : Re _ _ 1 [(⟨3, 0, 0, 0, ⟨#[]⟩⟩ : Ent)] := re_lit (Blk.fresh w9 65 #[.int .u64 3, .int .i64 0, .int .u64 0, .int .u64 0, .string ⟨#[]⟩]) (by simp [ents]) (by simp)
  have hlt4 := hS4.lt
  have hA := wappend_do (may' := [(⟨0, -1, 0, 0, [(⟨1, 0, 0, 0, ⟨#[]⟩⟩ : Ent), (⟨2, 0, 0, 0, ⟨#[]⟩⟩ : Ent)]⟩ : Ws), (⟨0, -1, 0, 0, [(⟨1, 0, 0, 0, ⟨#[]⟩⟩ : Ent)]⟩ : Ws), (⟨0, -1, 0, 0, [(⟨1, 0, 0, 0, ⟨#[]⟩⟩ : Ent), (⟨3, 0, 0, 0, ⟨#[]⟩⟩ : Ent)]⟩ : Ws)]) hS5.wal hS5.disk okO_nil hS5.wj (by have := hS5.count; omega) (by decide) _ 1 _ hR5 (by intro x hx; simp at hx; subst hx; exact may_num _ (by decide)) (by decide) (fun ad e _ hx => by cases e; exact absurd (hlt4 _ hx) (Nat.lt_irrefl _)) (by intro x hx; simp at hx; rcases hx with rfl | rfl <;> simp) (by
    intro j hj
    simp only [List.length_cons, List.length_nil] at hj
    rcases (by omega : j = 0 ∨ j = 1) with rfl | rfl <;> simp)
  have HA := Lib.hid (And.intro hA hS5)
  clear hS4 hkL hS5 hR5 hlt4 hA hk9 HS
  go_wp2_with fail
  refine HA.out.1.mono ?_
  intro e w10 hp
  obtain ⟨L10, E10, d10, z10, rfl, hS60⟩ := HA.out.2.did hp
  have hS6 : Sure w w10 wb db L10 E10 [] d10 (⟨0, -1, 0, 0, [(⟨1, 0, 0, 0, ⟨#[]⟩⟩ : Ent), (⟨3, 0, 0, 0, ⟨#[]⟩⟩ : Ent)]⟩ : Ws) z10 _ _ := hS60
  have HS := Lib.hid (And.intro (wsync_do hS6.wal hS6.disk hS6.wj (by have := hS6.count; omega)) hS6)
  clear hp hS6 hS60 HA
  go_wp2_with fail
  refine HS.out.1.mono ?_
  intro e w11 hp
  obtain ⟨L11, E11, d11, rfl, hS7⟩ := HS.out.2.synced hp
  have hCr := dcrash hS7.disk [] (ka := none) (kc := 0) (Sl.none _ _) (by simp)
  have HC := Lib.hid (And.intro hCr hS7)
  clear hp hS7 hCr HS
  go_wp2_with fail
  refine HC.out.1.mono ?_
  rintro e w12 ⟨rfl, hD12, hk12⟩
  have hS7 := HC.out.2
  have hW := crash_wf okO_nil hS7.wj.wf []
  have hlowL : ∀ x ∈ L11, w.heap.size ≤ x := fun x hx => hS7.low x (.tail _ (List.mem_append.2 (.inl hx)))
  have hk012 : Keeps [] w w12 := hS7.keeps.step hk12 (fun x hx => .inr (hlowL x hx))
  have hO := wopen hD12 (by have := hS7.count; show d11.count < 1000000; omega) hW rfl
  have HO := Lib.hid (And.intro hO (And.intro hk012 (And.intro hlowL hS7.count)))
  clear hS7 hW hlowL hk012 hO hD12 hk12 HC
  go_wp2_with fail
  refine HO.out.1.mono ?_
  intro e w13 hp
  obtain ⟨wb2, L13, E13, d13, s13, z13, rfl, hs, hS⟩ := hp.sure HO.out.2.1 HO.out.2.2.1 rfl (n := 100) (by have := HO.out.2.2.2; show d11.count ≤ 100; omega)
  obtain rfl : s13 = (⟨0, -1, 0, 0, [(⟨1, 0, 0, 0, ⟨#[]⟩⟩ : Ent), (⟨3, 0, 0, 0, ⟨#[]⟩⟩ : Ent)]⟩ : Ws) := by simpa using hs
  have hEn := wentries hS.wal (by simp)
  have HS := Lib.hid (And.intro hEn hS)
  clear hp hs hS hEn HO
  go_wp2_with fail
  refine HS.out.1.mono ?_
  rintro e w14 ⟨b14, c14, rfl, hO14, hk14⟩
  have hR14 : Re w14 b14 c14 [(⟨1, 0, 0, 0, ⟨#[]⟩⟩ : Ent), (⟨3, 0, 0, 0, ⟨#[]⟩⟩ : Ent)] := sl_of_ownW hO14 (ents_one _)
  have HS2 := Lib.hid (And.intro (HS.out.2.keep0 hk14) hR14)
  clear hO14 hk14 hR14 HS
  go_wp2_with fail
  refine (num_any 1 w14).mono ?_
  rintro e w15 ⟨rfl, hk15⟩
  go_wp2_with fail
  refine (num_any 3 w15).mono ?_
  rintro e w16 ⟨rfl, hk16⟩
  have hkL := (Keeps.refl [] w16).alloc (.cells #[.int .u64 1, .int .i64 0, .int .u64 0, .int .u64 0, .string ⟨#[]⟩, .int .u64 3, .int .i64 0, .int .u64 0, .int .u64 0, .string ⟨#[]⟩] 65)
  have hR5 : Re _ _ 2 [(⟨1, 0, 0, 0, ⟨#[]⟩⟩ : Ent), (⟨3, 0, 0, 0, ⟨#[]⟩⟩ : Ent)] := re_lit (Blk.fresh w16 65 #[.int .u64 1, .int .i64 0, .int .u64 0, .int .u64 0, .string ⟨#[]⟩, .int .u64 3, .int .i64 0, .int .u64 0, .int .u64 0, .string ⟨#[]⟩]) (by simp [ents]) (by simp)
  have hkA := (hk15.trans hk16).trans hkL
  have hSm := ents_same b14 _ c14 2 [(⟨1, 0, 0, 0, ⟨#[]⟩⟩ : Ent), (⟨3, 0, 0, 0, ⟨#[]⟩⟩ : Ent)] _ (HS2.out.2.keep0 hkA) hR5
  have HM := Lib.hid (And.intro hSm (HS2.out.1.keep0 hkA))
  clear hkL hR5 hkA hSm HS2 hk15 hk16
  go_wp2_with fail
  refine HM.out.1.mono ?_
  rintro e w17 ⟨rfl, hk17⟩
  have hS17 := HM.out.2.keep0 hk17
  have HH := Lib.hid (And.intro (whard hS17.wal) hS17)
  clear hS17 hk17 HM
  go_wp2_with fail
  refine HH.out.1.mono ?_
  rintro e w18 ⟨rfl, hk18⟩
  have HF := Lib.hid (HH.out.2.keep0 hk18).keeps
  clear hk18 HH
  go_wp2_with fail
  go_ret
  exact ⟨rfl, HF.out⟩
end Go.Proofs.YtfgmbjdeimallaaGreatDoor
/- The wal's laws: what lies apart from a wal stays. -/

namespace Go.Proofs.YtfgmbjdeimallaaGreatDoor
open Go.RowKit Go.Lib
section
variable {w0 w w' : World} {wb db : Nat} {L E : List Nat} {o : List (List UInt8 × Fil)} {d : DSt} {s s' : Ws} {z : Int} {may may' : List Ws} {n : Nat} {e : Ending}
/-- a block is none of the wal's -/
def Off (w : World) (wb : Nat) (L E : List Nat) (b : Nat) : Prop := b < w.heap.size ∧ b ∉ wb :: (L ++ E)
/-- a step of the wal: what lies apart stays, and lies apart behind it -/
def Stays (w w' : World) (wb wb' : Nat) (L E L' E' : List Nat) : Prop := ∀ b, Off w wb L E b → w'.heap[b]? = w.heap[b]? ∧ Off w' wb' L' E' b
theorem Off.keep0 {b : Nat} (h : Off w wb L E b) (hk : Keeps [] w w') : Off w' wb L E b := ⟨Nat.lt_of_lt_of_le h.1 hk.size, h.2⟩
theorem Stays.trans {w'' : World} {wb' wb'' : Nat} {L' E' L'' E'' : List Nat} (h : Stays w w' wb wb' L E L' E') (k : Stays w' w'' wb' wb'' L' E' L'' E'') : Stays w w'' wb wb'' L E L'' E'' := fun b hb => by
  obtain ⟨h1, h2⟩ := h b hb
  obtain ⟨h3, h4⟩ := k b h2
  exact ⟨h3.trans h1, h4⟩
theorem Stays.of0 (h : Keeps [] w w') : Stays w w' wb wb L E L E := fun b hb => ⟨h.block b hb.1 (by simp), hb.keep0 h⟩
theorem Stays.blk {wb' : Nat} {L' E' : List Nat} (h : Stays w w' wb wb' L E L' E') {b : Nat} {t : TypeId} {cs : Array Value} (hb : Off w wb L E b) (hB : Blk w b t cs) : Blk w' b t cs ∧ Off w' wb' L' E' b := by
  obtain ⟨h1, h2⟩ := h b hb
  exact ⟨h1.trans hB, h2⟩
theorem Stays.sl {wb' : Nat} {L' E' : List Nat} (h : Stays w w' wb wb' L E L' E') {sz : Nat} {ao : Option Addr} {k c : Nat} {xs : List Value} (hb : ∀ ad, ao = some ad → Off w wb L E ad.block) (hS : Sl w sz ao k c xs) : Sl w' sz ao k c xs ∧ ∀ ad, ao = some ad → Off w' wb' L' E' ad.block := by
  refine ⟨⟨hS.len, hS.cap, hS.most, hS.nil, hS.spot, fun ad ha j u hj => ?_, hS.one⟩, fun ad ha => (h _ (hb ad ha)).2⟩
  have h1 := (h _ (hb ad ha)).1
  exact (show w'.cell? ⟨ad.block, ad.off + j, none⟩ = w.cell? ⟨ad.block, ad.off + j, none⟩ from World.cell?_of_block h1).trans (hS.cell ad ha j u hj)
theorem Sure.new (h : Sure w0 w wb db L E o d s z may n) {b : Nat} (hb : w.heap.size ≤ b) (hb' : b < w'.heap.size) : Off w' wb L E b := ⟨hb', fun hx => by have := h.lt b hx; omega⟩
theorem Sure.old (h : Sure w0 w wb db L E o d s z may n) {b : Nat} (hb : b < w0.heap.size) : Off w wb L E b := ⟨Nat.lt_of_lt_of_le hb h.keeps.size, fun hx => by have := h.low b hx; omega⟩

theorem Sure.did2 (h : Sure w0 w wb db L E o d s z may n) (hp : DoP w L E wb db o d s' may' e w') : ∃ L' E' d' z', e = .returned .nilIface ∧ Sure w0 w' wb db L' E' o d' s' z' may' (n + 4) ∧ Stays w w' wb wb L E L' E' := by
  obtain ⟨ev, L', E', d', z', r, rfl, hE, hD, hk, hL, hE', hc, hr, hh⟩ := hp
  have hlow := h.low
  rcases hh with ⟨rfl, hW, hJ, h1⟩ | ⟨rfl, _, h1⟩
  · obtain rfl : ev = .nilIface := hE
    refine ⟨L', E', d', z', rfl, ⟨hD, hW, hJ, h1 h.halt, by have := h.count; omega, h.keeps.step hk (fun x hx => .inr (hlow x hx)), fun x hx => ?_⟩, fun b hb => ⟨hk.block b hb.1 hb.2, Nat.lt_of_lt_of_le hb.1 hk.size, fun hx => ?_⟩⟩
    · have hs := h.keeps.size
      rcases List.mem_cons.1 hx with rfl | hx
      · exact hlow _ (.head _)
      · rcases List.mem_append.1 hx with hx | hx
        · rcases hL x hx with h | h
          · exact hlow x (.tail _ (List.mem_append.2 (.inl h)))
          · omega
        · rcases hE' x hx with h | h
          · exact hlow x (.tail _ (List.mem_append.2 (.inr h)))
          · omega
    · have hlt := hb.1
      rcases List.mem_cons.1 hx with rfl | hx
      · exact hb.2 (.head _)
      · rcases List.mem_append.1 hx with hx | hx
        · rcases hL b hx with h | h
          · exact hb.2 (.tail _ (List.mem_append.2 (.inl h)))
          · omega
        · rcases hE' b hx with h | h
          · exact hb.2 (.tail _ (List.mem_append.2 (.inr h)))
          · omega
  · exact absurd h.halt h1
theorem Sure.synced2 (h : Sure w0 w wb db L E o d s z may n) (hp : SyP w L E wb db o d s z may e w') : ∃ L' E' d', e = .returned .nilIface ∧ Sure w0 w' wb db L' E' o d' s z [s] (n + 4) ∧ Stays w w' wb wb L E L' E' := by
  obtain ⟨ev, L', E', d', r, rfl, hE, hD, hW, hk, hL, hE', hc, hr, hh⟩ := hp
  rcases hh with ⟨rfl, a, b⟩ | ⟨rfl, a, b⟩
  · obtain rfl : ev = .nilIface := hE
    obtain ⟨L2, E2, d2, -, h2⟩ := h.synced (e := .returned .nilIface) (w' := w') ⟨.nilIface, L', E', d', .ok, rfl, rfl, hD, hW, hk, hL, hE', hc, hr, .inl ⟨rfl, a, b⟩⟩
    have hlow := h.low
    have hs := h.keeps.size
    refine ⟨L', E', d', rfl, ⟨hD, hW, a, b h.halt, by have := h.count; omega, h2.keeps, fun x hx => ?_⟩, fun b hb => ⟨hk.block b hb.1 hb.2, Nat.lt_of_lt_of_le hb.1 hk.size, fun hx => ?_⟩⟩
    · rcases List.mem_cons.1 hx with rfl | hx
      · exact hlow _ (.head _)
      · rcases List.mem_append.1 hx with hx | hx
        · rcases hL x hx with h | h
          · exact hlow x (.tail _ (List.mem_append.2 (.inl h)))
          · omega
        · rcases hE' x hx with h | h
          · exact hlow x (.tail _ (List.mem_append.2 (.inr h)))
          · omega
    · have hlt := hb.1
      rcases List.mem_cons.1 hx with rfl | hx
      · exact hb.2 (.head _)
      · rcases List.mem_append.1 hx with hx | hx
        · rcases hL b hx with h | h
          · exact hb.2 (.tail _ (List.mem_append.2 (.inl h)))
          · omega
        · rcases hE' b hx with h | h
          · exact hb.2 (.tail _ (List.mem_append.2 (.inr h)))
          · omega
  · exact absurd h.halt b
/-- a crash, and Open behind it -/
theorem Sure.reopen {w1 : World} {keep : List Int} (hO : OkO o) (h : Sure w0 w wb db L E o d s z may n) (hn : n < 900000) (hD : Disk w1 L db (d.crash keep)) (hk : Keeps L w w1) :
    Calls Tryz.prog 10 #[.pointer (some ⟨db, 0, none⟩)] w1 fun e w' => ∃ wb' L' E' d' s' z', e = .returned (.tuple #[.pointer (some ⟨wb', 0, none⟩), .nilIface]) ∧ s' ∈ may ∧ Sure w0 w' wb' db L' E' o d' s' z' [s'] (n + 3) ∧ Stays w w' wb wb' L E L' E' := by
  have hct : (d.crash keep).count = d.count := rfl
  refine (wopen hD (by have := h.count; omega) (crash_wf hO h.wj.wf keep) rfl).mono ?_
  intro e w' hp
  have hlowL : ∀ x ∈ L, w0.heap.size ≤ x := fun x hx => h.low x (.tail _ (List.mem_append.2 (.inl hx)))
  have hk0 : Keeps [] w0 w1 := h.keeps.step hk (fun x hx => .inr (hlowL x hx))
  obtain ⟨pv, ev, L', d', r, rfl, hE, hD', hk', hL', hc, hr, hh⟩ := hp
  rcases hh with ⟨rfl, wb', E', s', z', rfl, hW, hwb, hE2, hs, hJ, hha⟩ | ⟨rfl, _, hha⟩
  · obtain rfl : ev = .nilIface := hE
    refine ⟨wb', L', E', d', s', z', rfl, hs, ⟨hD', hW, hJ, hha rfl, by have := h.count; omega, hk0.step hk' (fun x hx => .inr (hlowL x hx)), fun x hx => ?_⟩, fun b hb => ⟨(hk'.block b (Nat.lt_of_lt_of_le hb.1 hk.size) (fun hx => hb.2 (.tail _ (List.mem_append.2 (.inl hx))))).trans (hk.block b hb.1 (fun hx => hb.2 (.tail _ (List.mem_append.2 (.inl hx))))), Nat.lt_of_lt_of_le hb.1 (Nat.le_trans hk.size hk'.size), fun hx => ?_⟩⟩
    · have hs0 := hk0.size
      rcases List.mem_cons.1 hx with rfl | hx
      · omega
      · rcases List.mem_append.1 hx with hx | hx
        · rcases hL' x hx with h | h
          · exact hlowL x h
          · omega
        · have := hE2 x hx; omega
    · have hlt := hb.1
      have hsz := hk.size
      rcases List.mem_cons.1 hx with rfl | hx
      · omega
      · rcases List.mem_append.1 hx with hx | hx
        · rcases hL' b hx with h | h
          · exact hb.2 (.tail _ (List.mem_append.2 (.inl h)))
          · omega
        · have := hE2 b hx; omega
  · exact absurd rfl hha
end
end Go.Proofs.YtfgmbjdeimallaaGreatDoor
