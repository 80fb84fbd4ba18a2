/- The wal: Open. -/
import Derived.Test.YtfgmbjdeimallaaGreatDoorWpaZ
import Derived.Test.YtfgmbjdeimallaaGreatDoorWa2
import Derived.Test.YtfgmbjdeimallaaGreatDoorDkY
import Derived.Test.YtfgmbjdeimallaaGreatDoorDk9

namespace Go.Proofs.YtfgmbjdeimallaaGreatDoor
open Go.RowKit Go.Lib

def DRes.isDown : DRes → Bool
  | .down => true
  | _ => false
theorem DRes.isDown_true {r : DRes} (h : r.isDown = true) : r = .down := by cases r <;> simp [DRes.isDown] at h ⊢
theorem DRes.isDown_false {r : DRes} (h : r.isDown = false) : r ≠ .down := by cases r <;> simp [DRes.isDown] at h ⊢

/-- what Open leaves: r: the disk, the error -/
def OpPost (w : World) (L : List Nat) (db : Nat) (r : DSt × DRes) (s : Ws) (size : Int) (e : Ending) (w' : World) : Prop :=
  ∃ pv ev L', e = .returned (.tuple #[pv, ev]) ∧ DE w' ev r.2 ∧ Disk w' L' db r.1 ∧ Keeps L w w' ∧ (∀ x ∈ L', x ∈ L ∨ w.heap.size ≤ x) ∧
    (r.2 = .ok → ∃ wb E, pv = .pointer (some ⟨wb, 0, none⟩) ∧ WalAt w' wb db s size E ∧ w.heap.size ≤ wb ∧ ∀ x ∈ E, w.heap.size ≤ x)
def DSt.open0 (d : DSt) : DSt × DRes := if (d.remove nmNew).2.isDown = true then ((d.remove nmNew).1, .down) else ((d.remove nmNew).1, .ok)
def DSt.open1 (d : DSt) (k n : Nat) : DSt × DRes :=
  if (d.remove nmNew).2.isDown = true then ((d.remove nmNew).1, .down)
  else if k < n then (if ((d.remove nmNew).1.trunc nmWal k).2.isOk = false then (d.remove nmNew).1.trunc nmWal k else ((d.remove nmNew).1.trunc nmWal k).1.sync nmWal)
  else (d.remove nmNew).1.sync nmWal
theorem remove_keeps {d : DSt} (hn : (d.fs.map (·.1)).Nodup) (h : (d.remove nmNew).2.isDown = false) : mget nmWal (d.remove nmNew).1.fs = mget nmWal d.fs ∧ (d.remove nmNew).1.off = false := by
  unfold DSt.remove at *
  by_cases ho : d.off = true
  · rw [if_pos ho] at h; simp [DRes.isDown] at h
  · rw [if_neg ho] at h ⊢
    have ho' : d.off = false := by simpa using ho
    split
    · exact ⟨rfl, ho'⟩
    · rename_i f hf
      rw [hf] at h
      simp only at h
      by_cases h0 : d.halt = 0
      · rw [if_pos h0] at h; simp [DRes.isDown] at h
      · rw [if_neg h0]
        simp only
        exact ⟨by rw [mget_mdel hn, if_neg (by decide)], ho'⟩
theorem fileOf_count : ∀ l : List Ev, l.length * 8 ≤ (fileOf l).length
  | [] => by simp
  | e :: l => by
    have := fileOf_count l
    rw [fileOf_cons, List.length_append, frame_length, List.length_cons]
    omega
theorem fileOf_part (l : List Ev) (j : Nat) : (fileOf (l.take j)).length ≤ (fileOf l).length := by
  have := fileOf_append (l.take j) (l.drop j)
  rw [List.take_append_drop] at this
  rw [this]
  simp
theorem fileOf_drop {l : List Ev} {j : Nat} {e : Ev} (h : l[j]? = some e) (t : List UInt8) : (fileOf l ++ t).drop (fileOf (l.take j)).length = frame e.bytes ++ (fileOf (l.drop (j + 1)) ++ t) ∧ fileOf (l.take (j + 1)) = fileOf (l.take j) ++ frame e.bytes := by
  obtain ⟨hj, rfl⟩ := List.getElem?_eq_some_iff.1 h
  have e1 : l.take (j + 1) = l.take j ++ [l[j]] := by rw [List.take_add_one, List.getElem?_eq_getElem hj]; rfl
  constructor
  · have e2 : fileOf l = fileOf (l.take j) ++ (frame l[j].bytes ++ fileOf (l.drop (j + 1))) := by
      rw [← fileOf_cons, ← List.drop_eq_getElem_cons hj, ← fileOf_append, List.take_append_drop]
    rw [e2, List.append_assoc, List.drop_left, List.append_assoc]
  · rw [e1, fileOf_append, fileOf_cons, fileOf_nil, List.append_nil]
theorem plays_take {s : Ws} {l : List Ev} {j : Nat} {e : Ev} (h : l[j]? = some e) : s.plays (l.take (j + 1)) = (s.plays (l.take j)).ev e := by
  obtain ⟨hj, rfl⟩ := List.getElem?_eq_some_iff.1 h
  have e1 : l.take (j + 1) = l.take j ++ [l[j]] := by rw [List.take_add_one, List.getElem?_eq_getElem hj]; rfl
  rw [e1, Ws.plays_append]
  rfl
theorem mays_take {s : Ws} {l : List Ev} {j : Nat} {e : Ev} (hm : s.Mays l) (h : l[j]? = some e) : s.Mays (l.take j) ∧ e.May (s.plays (l.take j)) := by
  obtain ⟨hj, rfl⟩ := List.getElem?_eq_some_iff.1 h
  have h1 := List.take_append_drop j l
  rw [← h1] at hm
  obtain ⟨h2, h3⟩ := (Ws.mays_append _ _ _).1 hm
  rw [List.drop_eq_getElem_cons hj] at h3
  exact ⟨h2, h3.1⟩
theorem plays_few : ∀ (l : List Ev) (s : Ws), (s.plays l).es.length ≤ s.es.length + l.length
  | [], s => by simp [Ws.plays]
  | e :: l, s => by
    have := plays_few l (s.ev e)
    have h2 : (s.ev e).es.length ≤ s.es.length + 1 := by cases e <;> simp [Ws.ev] <;> omega
    rw [Ws.plays_cons, List.length_cons]
    omega

section
variable {w : World} {L : List Nat} {db : Nat} {d : DSt}
theorem walZ {wb : Nat} (h : Blk w wb 81 #[.pointer (some ⟨db, 0, none⟩), .int .u64 0, .int .i64 (-1), .int .u64 0, .int .u64 0, .slice none 0 0, .int .i64 (-1)]) : WalAt w wb db Ws.nil (-1) [] := ⟨none, 0, h, OwnO.nil _ _ _, rfl⟩

set_option maxRecDepth 100000 in
set_option maxHeartbeats 4000000 in
theorem open_none (h : Disk w L db d) (hc : d.count < 1000000000) (hm : mget nmWal d.fs = none) :
    Calls Tryz.prog 10 #[.pointer (some ⟨db, 0, none⟩)] w (OpPost w L db d.open0 Ws.nil (-1)) := by
  have hnd := h.ok.nodup
  have hX := Blk.fresh w 81 #[.pointer (some ⟨db, 0, none⟩), .int .u64 0, .int .i64 (-1), .int .u64 0, .int .u64 0, .slice none 0 0, .int .i64 (-1)]
  have hkX := (Keeps.refl [] w).alloc (.cells #[.pointer (some ⟨db, 0, none⟩), .int .u64 0, .int .i64 (-1), .int .u64 0, .int .u64 0, .slice none 0 0, .int .i64 (-1)] 81)
  have h1 := h.keep0 hkX
  have hRm := dremove h1 nmNew (by omega)
  have HRm := Lib.hid hRm
  have H0 := Lib.hid (And.intro hX (And.intro hkX (And.intro h.lt hnd)))
  obtain ⟨R, hRR⟩ : ∃ R, R = d.open0 := ⟨_, rfl⟩
  rw [← hRR]
  have HRR := Lib.hid hRR
  clear hRR hRm h1 hX hkX h hnd
  go_enter Tryz.func10, Tryz.ntmps10
  go_wp2_with fail
  refine HRm.out.mono ?_
  rintro e w2 ⟨ev, L2, rfl, hE, hD2, hk2, hL2⟩
  have hres := remove_res d nmNew
  obtain ⟨hX, hkX, hlt, hnd⟩ := H0.out
  have hX2 := hX.keep hk2 (fun hx => by have := hlt _ hx; omega)
  have hk02 : Keeps L w w2 := hkX.of_nil.trans hk2
  have hL02 : ∀ x ∈ L2, x ∈ L ∨ w.heap.size ≤ x := fun x hx => (hL2 x hx).imp id (fun h => Nat.le_trans hkX.size h)
  have hrk := fun h => remove_keeps (d := d) hnd h
  obtain ⟨d1, hd1⟩ : ∃ d1, d1 = (d.remove nmNew).1 := ⟨_, rfl⟩
  obtain ⟨r1, hr1⟩ : ∃ r1, r1 = (d.remove nmNew).2 := ⟨_, rfl⟩
  rw [← hr1] at hE hres hrk
  rw [← hd1] at hD2 hrk
  have HR := Lib.hid (And.intro hd1 hr1)
  have H2 := Lib.hid (And.intro hD2 (And.intro hX2 (And.intro hk02 (And.intro hL02 (And.intro hrk hE)))))
  obtain ⟨q, hq⟩ : ∃ q : Bool, q = r1.isDown := ⟨_, rfl⟩
  clear hX hkX hlt hnd hX2 hk02 hL02 hrk hd1 hr1 hD2 hk2 hL2
  go_upto_region 3 with (fail)
  go_cut [25] (fun v wx => v = .bool q ∧ wx = w2)
  case first =>
    rcases hres with rfl | rfl | rfl
    · obtain rfl : ev = .nilIface := hE
      obtain rfl : q = false := hq
      go_wp2_with fail
      go_meet
      exact ⟨rfl, rfl⟩
    · have hI := is_de hE 30 (by decide)
      obtain rfl : ev = .iface 75 (.int .i64 32) := hE
      obtain rfl : q = true := hq
      rw [show decide (DRes.down.cls = 30) = false from rfl] at hI
      go_wp2_with fail
      refine hI.mono ?_
      rintro e w6 ⟨rfl, hw⟩
      obtain rfl := hw.symm
      clear hI
      go_wp2_with fail
      go_meet
      exact ⟨rfl, rfl⟩
    · have hI := is_de hE 30 (by decide)
      rw [show decide ((DRes.bad nmNew 30).cls = 30) = true from rfl] at hI
      obtain ⟨g, rfl, hg⟩ := hE
      obtain rfl : q = false := hq
      clear hg
      go_wp2_with fail
      refine hI.mono ?_
      rintro e w6 ⟨rfl, hw⟩
      obtain rfl := hw.symm
      clear hI
      go_wp2_with fail
      go_meet
      exact ⟨rfl, rfl⟩
  case rest =>
  obtain ⟨rfl, hw⟩ := hcut
  obtain rfl := hw.symm
  cases q with
  | true =>
    have hrd : r1 = .down := DRes.isDown_true hq.symm
    have hRv : R = (d1, .down) := by
      rw [HRR.out]
      unfold DSt.open0
      rw [← HR.out.1, ← HR.out.2, ← hq]
      rfl
    subst hrd
    have HRv := Lib.hid hRv
    clear hRv hq hE hres
    go_wp2_with fail
    go_ret2
    obtain ⟨hD2, hX2, hk02, hL02, hrk, hE⟩ := H2.out
    rw [HRv.out]
    exact ⟨_, _, L2, rfl, hE, hD2, hk02, hL02, fun e => by simp at e⟩
  | false =>
    have hRv : R = (d1, .ok) := by
      rw [HRR.out]
      unfold DSt.open0
      rw [← HR.out.1, ← HR.out.2, ← hq]
      rfl
    have hR := dread H2.out.1 nmWal
    rw [show d1.read nmWal = ([], .bad nmWal 30) by
      obtain ⟨a, b⟩ := H2.out.2.2.2.2.1 hq.symm
      simp [DSt.read, b, a, hm]] at hR
    have HRd := Lib.hid (And.intro hR hRv)
    clear hRv hq hE hres hR
    go_wp2_with fail
    refine HRd.out.1.mono ?_
    rintro e w3 ⟨bo, bc, ev3, rfl, hE3, hO3, hk3⟩
    have hI := is_de hE3 30 (by decide)
    rw [show decide ((DRes.bad nmWal 30).cls = 30) = true from rfl] at hI
    clear hE3 hO3
    go_wp2_with fail
    refine hI.mono ?_
    rintro e w4 ⟨rfl, hw⟩
    obtain rfl := hw
    clear hI
    go_wp2_with fail
    go_ret2
    obtain ⟨hD2, hX2, hk02, hL02, hrk, hE⟩ := H2.out
    rw [HRd.out.2]
    exact ⟨_, _, L2, rfl, rfl, hD2.keep0 hk3, hk02.trans hk3.of_nil, hL02, fun _ => ⟨w.heap.size, [], rfl, walZ (hX2.keep hk3 (by simp)), Nat.le_refl _, by simp⟩⟩
end
end Go.Proofs.YtfgmbjdeimallaaGreatDoor
/- The wal: Open of a file. -/

namespace Go.Proofs.YtfgmbjdeimallaaGreatDoor
open Go.RowKit Go.Lib

theorem Rb.tail {w : World} {g o c z : Nat} {l : List UInt8} (h : Rb w (some ⟨g, o, none⟩) c l) (hz : z ≤ l.length) (hc : z < c) : Rb w (some ⟨g, o + z, none⟩) (c - z) (l.drop z) := by
  have hD := h.drop (k := z) hz
  rw [if_neg (by omega)] at hD
  have e : (bys l).drop (z * 1) = bys (l.drop z) := by unfold bys; rw [Nat.mul_one, List.map_drop]
  rw [e] at hD
  unfold Rb
  rw [List.length_drop]
  simpa [addr_add] using hD
section
variable {w : World} {L : List Nat} {db : Nat} {d : DSt}
set_option maxRecDepth 100000 in
set_option maxHeartbeats 8000000 in
theorem open_file (h : Disk w L db d) (hc : d.count < 1000000000) {f : Fil} (hm : mget nmWal d.fs = some f) (evs : List Ev) (t : List UInt8) (hf : f.b = fileOf evs ++ t) (hmay : Ws.nil.Mays evs) (ht : Tail t) (hfl : f.b.length ≤ 1000000) :
    Calls Tryz.prog 10 #[.pointer (some ⟨db, 0, none⟩)] w (OpPost w L db (d.open1 (fileOf evs).length f.b.length) (Ws.nil.plays evs) ((fileOf evs).length : Int)) := by
  obtain ⟨B, hBd⟩ : ∃ B, B = fileOf evs ++ t := ⟨_, rfl⟩
  rw [← hBd] at hf
  have HBD := Lib.hid hBd
  clear hBd
  have hnd := h.ok.nodup
  have hX := Blk.fresh w 81 #[.pointer (some ⟨db, 0, none⟩), .int .u64 0, .int .i64 (-1), .int .u64 0, .int .u64 0, .slice none 0 0, .int .i64 (-1)]
  have hkX := (Keeps.refl [] w).alloc (.cells #[.pointer (some ⟨db, 0, none⟩), .int .u64 0, .int .i64 (-1), .int .u64 0, .int .u64 0, .slice none 0 0, .int .i64 (-1)] 81)
  have h1 := h.keep0 hkX
  have hRm := dremove h1 nmNew (by omega)
  have HRm := Lib.hid hRm
  have H0 := Lib.hid (And.intro hX (And.intro hkX (And.intro h.lt hnd)))
  obtain ⟨R, hRR⟩ : ∃ R, R = d.open1 (fileOf evs).length f.b.length := ⟨_, rfl⟩
  rw [← hRR]
  have HRR := Lib.hid hRR
  have HF := Lib.hid (And.intro hm (And.intro hf (And.intro hmay (And.intro ht (And.intro hfl hc)))))
  clear hRR hRm h1 hX hkX h hnd hm hf hmay ht hfl hc
  go_enter Tryz.func10, Tryz.ntmps10
  go_wp2_with fail
  refine HRm.out.mono ?_
  rintro e w2 ⟨ev, L2, rfl, hE, hD2, hk2, hL2⟩
  have hres := remove_res d nmNew
  obtain ⟨hX, hkX, hlt, hnd⟩ := H0.out
  have hX2 := hX.keep hk2 (fun hx => by have := hlt _ hx; omega)
  have hk02 : Keeps L w w2 := hkX.of_nil.trans hk2
  have hL02 : ∀ x ∈ L2, x ∈ L ∨ w.heap.size ≤ x := fun x hx => (hL2 x hx).imp id (fun h => Nat.le_trans hkX.size h)
  have hwbL : w.heap.size ∉ L2 := fun hx => (hL2 _ hx).elim (fun h => by have := hlt _ h; omega) (fun h => by have := hX.lt; omega)
  have hrk := fun h => remove_keeps (d := d) hnd h
  have hct := remove_count d nmNew
  obtain ⟨d1, hd1⟩ : ∃ d1, d1 = (d.remove nmNew).1 := ⟨_, rfl⟩
  obtain ⟨r1, hr1⟩ : ∃ r1, r1 = (d.remove nmNew).2 := ⟨_, rfl⟩
  rw [← hr1] at hE hres hrk
  rw [← hd1] at hD2 hrk hct
  have HR := Lib.hid (And.intro hd1 (And.intro hr1 hct))
  have H2 := Lib.hid (And.intro hD2 (And.intro hX2 (And.intro hk02 (And.intro hL02 (And.intro hrk (And.intro hE hwbL))))))
  obtain ⟨q, hq⟩ : ∃ q : Bool, q = r1.isDown := ⟨_, rfl⟩
  clear hX hkX hlt hnd hX2 hk02 hL02 hrk hd1 hr1 hD2 hk2 hL2 hwbL hct
  go_upto_region 3 with (fail)
  go_cut [25] (fun v wx => v = .bool q ∧ wx = w2)
  case first =>
    rcases hres with rfl | rfl | rfl
    · obtain rfl : ev = .nilIface := hE
      obtain rfl : q = false := hq
      go_wp2_with fail
      go_meet
      exact ⟨rfl, rfl⟩
    · have hI := is_de hE 30 (by decide)
      obtain rfl : ev = .iface 75 (.int .i64 32) := hE
      obtain rfl : q = true := hq
      rw [show decide (DRes.down.cls = 30) = false from rfl] at hI
      go_wp2_with fail
      refine hI.mono ?_
      rintro e w6 ⟨rfl, hw⟩
      obtain rfl := hw.symm
      clear hI
      go_wp2_with fail
      go_meet
      exact ⟨rfl, rfl⟩
    · have hI := is_de hE 30 (by decide)
      rw [show decide ((DRes.bad nmNew 30).cls = 30) = true from rfl] at hI
      obtain ⟨g, rfl, hg⟩ := hE
      obtain rfl : q = false := hq
      clear hg
      go_wp2_with fail
      refine hI.mono ?_
      rintro e w6 ⟨rfl, hw⟩
      obtain rfl := hw.symm
      clear hI
      go_wp2_with fail
      go_meet
      exact ⟨rfl, rfl⟩
  case rest =>
  obtain ⟨rfl, hw⟩ := hcut
  obtain rfl := hw.symm
  cases q with
  | true =>
    have hrd : r1 = .down := DRes.isDown_true hq.symm
    have hRv : R = (d1, .down) := by
      rw [HRR.out]
      unfold DSt.open1
      rw [← HR.out.1, ← HR.out.2.1, ← hq]
      rfl
    subst hrd
    have HRv := Lib.hid hRv
    clear hRv hq hE hres
    go_wp2_with fail
    go_ret2
    obtain ⟨hD2, hX2, hk02, hL02, hrk, hE, hwbL⟩ := H2.out
    rw [HRv.out]
    exact ⟨_, _, L2, rfl, hE, hD2, hk02, hL02, fun e => by simp at e⟩
  | false =>
    have hRv : R = if (fileOf evs).length < f.b.length then (if (d1.trunc nmWal (fileOf evs).length).2.isOk = false then d1.trunc nmWal (fileOf evs).length else (d1.trunc nmWal (fileOf evs).length).1.sync nmWal) else d1.sync nmWal := by
      rw [HRR.out]
      unfold DSt.open1
      rw [← HR.out.1, ← HR.out.2.1, ← hq]
      rfl
    have hR := dread H2.out.1 nmWal
    rw [show d1.read nmWal = (B, .ok) by
      obtain ⟨a, b⟩ := H2.out.2.2.2.2.1 hq.symm
      rw [← HF.out.2.1]
      simp [DSt.read, b, a, HF.out.1]] at hR
    have HRd := Lib.hid (And.intro hR hRv)
    clear hRv hq hE hres hR
    go_wp2_with fail
    refine HRd.out.1.mono ?_
    rintro e w3 ⟨bo, bc, ev3, rfl, hE3, hO3, hk3⟩
    obtain rfl : ev3 = .nilIface := hE3
    go_wp2_with fail
    refine (is_nil 30 w3).mono ?_
    rintro e w4 ⟨rfl, hw⟩
    obtain rfl := hw
    obtain ⟨hD2, hX2, hk02, hL02, -, -, hwbL⟩ := H2.out
    have hD3 := hD2.keep0 hk3
    have hX3 := hX2.keep hk3 (by simp)
    have hk03 := hk02.trans hk3.of_nil
    have hB3 := hO3.rb
    have hcX := hX3.cell
    have hfX := hX3.free
    have hlX := hX3.lt
    have hbg := hO3.lt
    have HS2 := Lib.hid hX2.lt
    obtain ⟨wb, hwb⟩ : ∃ wb, wb = w.heap.size := ⟨_, rfl⟩
    rw [← hwb] at hcX hfX hlX hX3 hwbL HS2
    have H3 := Lib.hid (And.intro hD3 (And.intro hX3 (And.intro hk03 (And.intro hB3 (And.intro hwbL (And.intro hbg hwb))))))
    obtain ⟨n, hn⟩ : ∃ n, n = B.length := ⟨_, rfl⟩
    rw [← hn]
    have HN := Lib.hid hn
    clear hD2 hX2 hk02 hD3 hX3 hk03 hO3 hB3 hwbL hk3 hn hbg
    rw [← hwb]
    clear hwb
    go_wp2_with fail
    clear hcX hfX hlX
    go_loopw [10] (fun v wr => (fun wr => ∃ (j : Nat) (E : List Nat), j ≤ evs.length ∧ WalAt wr wb db (Ws.nil.plays (evs.take j)) ((fileOf (evs.take j)).length : Int) E ∧ ((∀ x ∈ E, w3.heap.size ≤ x) ∧ w3.heap.size ≤ wr.heap.size) ∧ Rb wr bo bc B ∧ Disk wr L2 db d1 ∧ Keeps L w wr) wr) (fun v wr => (n : Int).toNat - (intOf ((wr.cell? ⟨wb, 6, none⟩).getD undef)).toNat)
    case atStart =>
      obtain ⟨hD3, hX3, hk03, hB3, hwbL, hbg, hwb⟩ := H3.out
      have hks := (Keeps.refl [wb] w3).set (p := ⟨wb, 6, none⟩) (.inl (by simp)) (.int .i64 0)
      refine ⟨0, [], Nat.zero_le _, ⟨none, 0, (hX3.put 6 (.int .i64 0)).eq (by simp [walCells, Ws.plays, fileOf]), OwnO.nil _ _ _, rfl⟩, ⟨by simp, by simp⟩, ?_, hD3.keep hks (fun x hx => by simp; rintro rfl; exact hwbL hx), hk03.step hks (fun x hx => .inr (by simp at hx; omega))⟩
      exact hB3.keep hks (fun ad e _ => by have h1 := hbg ad.block (by rw [e]; simp); have := HS2.out; simp; omega)
    case round =>
      obtain ⟨j, E, hj, hW, hE, hB, hD, hk⟩ := hrel
      have hWB := Lib.hid hW
      obtain ⟨ao, c, hBw, hO, rfl⟩ := hW.at_
      have hcw := hBw.cell
      have hlw := hBw.lt
      have hfw := hBw.free
      obtain ⟨k, hkd⟩ : ∃ k, k = (fileOf (evs.take j)).length := ⟨_, rfl⟩
      have hkn : k ≤ n := by
        have h1 := fileOf_part evs j
        have h2 := congrArg List.length HBD.out
        rw [List.length_append] at h2
        have := HN.out
        omega
      have hnl : n ≤ 1000000 := by have := HN.out; have := HF.out.2.2.2.2.1; rw [HF.out.2.1] at this; omega
      have hcp := hB.cap
      have hmx := hB.most
      unfold maxLen at hmx
      rw [← HN.out] at hcp
      rw [← hkd] at hcw
      have HW := Lib.hid (And.intro hW (And.intro hE (And.intro hB (And.intro hD (And.intro hk hkd)))))
      have hmoff := hO.off hBw (by decide)
      clear hWB hW hE hD hk hkd hBw hO
      rcases (by omega : j < evs.length ∨ j = evs.length) with hjl | rfl
      · have hv := List.getElem?_eq_getElem hjl
        generalize evs[j] = x at hv
        obtain ⟨hdr, htk⟩ := fileOf_drop hv t
        have hplay := plays_take (s := Ws.nil) hv
        obtain ⟨hm1, hm2⟩ := mays_take HF.out.2.2.1 hv
        have hok := Ws.Ok.nil.plays hm1
        have hfew := plays_few (evs.take j) Ws.nil
        have hcnt := fileOf_count evs
        have hfl2 : (fileOf evs).length ≤ n := by
          have h2 := congrArg List.length HBD.out
          rw [List.length_append] at h2
          have := HN.out
          omega
        have hes : (Ws.nil.plays (evs.take j)).es.length ≤ 1000000 := by simp at hfew; omega
        have hsmall := Ev.bytes_most hok (by omega) hm2
        have hkl : k + (frame x.bytes).length ≤ n := by
          have h1 := fileOf_part evs (j + 1)
          rw [htk, List.length_append] at h1
          have := HW.out.2.2.2.2.2
          omega
        have hfrl := frame_length x.bytes
        have hkn2 : k < n := by omega
        obtain ⟨g, o, rfl⟩ := hB.at (by omega)
        have hT := Rb.tail (z := k) hB (by rw [← HN.out]; exact hkn) (by omega)
        have hdB : B.drop k = frame x.bytes ++ (fileOf (evs.drop (j + 1)) ++ t) := by rw [HBD.out, HW.out.2.2.2.2.2, hdr]
        have hU := unframe_any _ _ _ wr hT
        rw [hdB, frame_back _ _ (by omega), ← hdB, List.length_drop, ← HN.out] at hU
        have HU := Lib.hid hU
        obtain ⟨z, hz⟩ : ∃ z, z = (frame x.bytes).length := ⟨_, rfl⟩
        rw [← hz] at HU hkl hfrl
        have HX := Lib.hid (And.intro hv (And.intro htk (And.intro hplay (And.intro hm2 (And.intro hok (And.intro hes hz))))))
        have q1 : IntKind.i64.wrap ((k : Int) + (z : Int)) = ((k + z : Nat) : Int) := by rw [IntWalk.i64_in _ (by omega)]; omega
        have hz0 : 0 < z := by omega
        have n1 : (k : Int) < (n : Int) := by omega
        have n2 : (0 : Int) ≤ (k : Int) := by omega
        have n3 : (n : Int) ≤ (bc : Int) := by omega
        have n4 : (k : Int) ≤ (n : Int) := by omega
        have n5 : ¬ (bc = k) := by omega
        clear hv hdr htk hplay hm1 hm2 hok hfew hcnt hfl2 hes hsmall hfrl hT hdB hU hz hB
        go_wp2_with fail
        refine HU.out.mono ?_
        rintro e w5 ⟨b5, d5, ev5, rfl, hR5, hE5, hk5⟩
        obtain rfl := hE5.zero.2 rfl
        have hW5 := HW.out.1.keep0 hk5
        have hbc5 := hR5.most
        have hP := plays_any hW5 HX.out.2.2.2.2.1 HX.out.2.2.2.2.2.1 x HX.out.2.2.2.1 b5 d5 hR5 (by unfold maxLen at hbc5; omega)
        have HP := Lib.hid (And.intro hP hk5)
        clear hE5 hW5 hP hk5 hR5 hcw hlw hfw hbc5
        go_wp2_with fail
        refine (torn_nil w5).mono ?_
        rintro e w6 ⟨rfl, hw⟩
        obtain rfl := hw
        go_wp2_with fail
        refine HP.out.1.mono ?_
        rintro e w7 ⟨rfl, E7, hW7, hE7, hk7⟩
        obtain ⟨ao7, c7, hBw7, hO7, rfl⟩ := hW7.at_
        have hcw := hBw7.cell
        have hlw := hBw7.lt
        have hfw := hBw7.free
        rw [← HW.out.2.2.2.2.2] at hcw
        have H7 := Lib.hid (And.intro hW7 (And.intro hBw7 (And.intro hO7 (And.intro hE7 hk7))))
        clear hW7 hBw7 hO7 hE7 hk7
        go_wp2_with fail
        go_roundw
        case rel =>
          obtain ⟨-, hBw7, hO7, hE7, hk7⟩ := H7.out
          obtain ⟨hW, hE, hB, hD, hk, hkd⟩ := HW.out
          obtain ⟨hv, htk, hplay, hm2, hok, hes, hz⟩ := HX.out
          obtain ⟨hD3, hX3, hk03, hB3, hwbL, hbg, hwb⟩ := H3.out
          obtain ⟨-, hk5⟩ := HP.out
          have hs03 := hk03.size
          have hoff : ∀ x ∈ wb :: blks ao, w.heap.size ≤ x := fun x hx => by
            rcases List.mem_cons.1 hx with rfl | hx
            · omega
            · have := hE.1 x hx; omega
          have hDL := hD.lt
          have hks := (Keeps.refl [wb] w7).set (p := ⟨wb, 6, none⟩) (.inl (by simp)) (.int .i64 ((k + z : Nat) : Int))
          have hlen : (fileOf (evs.take (j + 1))).length = k + z := by rw [htk, List.length_append, ← hkd, ← hz]
          have hs5 := hk5.size
          have hs7 := hk7.size
          refine ⟨j + 1, blks ao7, by omega, ⟨ao7, c7, ?_, ?_, rfl⟩, ⟨?_, by have := hE.2; simp; omega⟩, ?_, ?_, ?_⟩
          · rw [hplay, hlen]
            exact (hBw7.put 6 (.int .i64 ((k + z : Nat) : Int))).eq (by simp [walCells])
          · rw [hplay]
            exact hO7.keep hks (fun y hy => by simp; rintro rfl; exact hO7.off hBw7 (by decide) hy)
          · intro y hy
            rcases hE7 y hy with h | h
            · exact hE.1 y h
            · have := hE.2; omega
          · refine ((hB.keep0 hk5).keep hk7 (fun ad e hne => ?_)).keep hks (fun ad e hne => ?_)
            · cases e
              have h1 := hbg g (by simp)
              simp only [List.mem_cons, not_or]
              refine ⟨by have := HS2.out; simp; omega, fun hy => ?_⟩
              have := hE.1 _ hy
              omega
            · cases e
              have h1 := hbg g (by simp)
              have := HS2.out
              simp; omega
          · refine ((hD.keep0 hk5).keep hk7 (fun y hy hx => ?_)).keep hks (fun y hy => by simp; rintro rfl; exact hwbL hy)
            rcases List.mem_cons.1 hx with rfl | hx
            · exact hwbL hy
            · have h1 := hE.1 y hx
              have h2 := hD3.lt y hy
              omega
          · exact ((hk.trans hk5.of_nil).step hk7 (fun y hy => .inr (hoff y hy))).step hks (fun y hy => .inr (by simp at hy; omega))
        case measure =>
          obtain ⟨hW, -, -, -, -, hkd⟩ := HW.out
          obtain ⟨ao', c', h1, -, -⟩ := hW.at_
          have hc0 := h1.cell 6
          rw [← hkd] at hc0
          have hc7 := (H7.out.2.1.put 6 (.int .i64 ((k : Int) + (z : Int)))).cell 6
          simp at hc0 hc7
          simp [intOf, hc0, hc7]
          omega
      · rw [List.take_length] at HW
        have hfin : ∀ (w9 : World) (L9 : List Nat) (ev9 : Value) (r9 : DSt × DRes), DE w9 ev9 r9.2 → Disk w9 L9 db r9.1 → Keeps L2 wr w9 → (∀ x ∈ L9, x ∈ L2 ∨ wr.heap.size ≤ x) → R = r9 → OpPost w L db R (Ws.nil.plays evs) ((fileOf evs).length : Int) (.returned (.tuple #[.pointer (some ⟨wb, 0, none⟩), ev9])) w9 := by
          rintro w9 L9 ev9 r9 hE9 hD9 hk9 hL9 rfl
          obtain ⟨hW, hE, hB, hD, hk, hkd⟩ := HW.out
          obtain ⟨hD3, hX3, hk03, hB3, hwbL, hbg, hwb⟩ := H3.out
          obtain ⟨hD2, hX2, hk02, hL02, -, -, -⟩ := H2.out
          have hs03 := hk03.size
          refine ⟨_, ev9, L9, rfl, hE9, hD9, hk.step hk9 hL02, fun x hx => (hL9 x hx).elim (hL02 x) (fun h => .inr (by have := hk.size; omega)), fun _ => ⟨wb, blks ao, rfl, hW.keep hk9 hwbL (fun x hx hx2 => ?_), by omega, fun x hx => by have := hE.1 x hx; omega⟩⟩
          have h1 := hE.1 x hx
          have h2 := hD3.lt x hx2
          omega
        have HFN := Lib.hid hfin
        clear hfin
        have hlen : n = k + t.length := by rw [HN.out, HBD.out, List.length_append, ← HW.out.2.2.2.2.2]
        have hct : d1.count < 4611686018427387904 := by have := HR.out.2.2; have := HF.out.2.2.2.2.2; omega
        by_cases ht0 : t = []
        · have hkn2 : n = k := by rw [hlen, ht0]; simp
          subst hkn2
          have n1 : ¬ ((n : Int) < (n : Int)) := by omega
          have hSy := dsync HW.out.2.2.2.1 nmWal hct
          have hRe : R = d1.sync nmWal := by
            rw [HRd.out.2, if_neg]
            rw [HF.out.2.1, ← HN.out, ← HW.out.2.2.2.2.2]
            omega
          have HSy := Lib.hid (And.intro hSy hRe)
          clear hSy hRe hlen ht0
          go_wp2_with fail
          refine HSy.out.1.mono ?_
          rintro e w9 ⟨ev9, L9, rfl, hE9, hD9, hk9, hL9⟩
          have H9 := Lib.hid (HFN.out w9 L9 ev9 _ hE9 hD9 hk9 hL9 HSy.out.2)
          clear hE9 hD9 hk9 hL9 hcw hlw hfw
          go_wp2_with fail
          go_ret2
          exact H9.out
        · have htp := List.length_pos_iff.2 ht0
          have hkn2 : k < n := by omega
          obtain ⟨g, o, rfl⟩ := hB.at (by omega)
          have hT := Rb.tail (z := k) hB (by rw [← HN.out]; exact hkn) (by omega)
          have hdB : B.drop k = t := by rw [HBD.out, HW.out.2.2.2.2.2, List.drop_left]
          have hU := unframe_any _ _ _ wr hT
          rw [hdB, HF.out.2.2.2.1.unfr, ← hdB, List.length_drop, ← HN.out] at hU
          have hTr := fun W (hk : Keeps [] wr W) => dtrunc (HW.out.2.2.2.1.keep0 hk) nmWal (k : Int) hct
          have hRe : R = if (d1.trunc nmWal k).2.isOk = false then d1.trunc nmWal k else (d1.trunc nmWal k).1.sync nmWal := by
            rw [HRd.out.2, ← HW.out.2.2.2.2.2, if_pos]
            rw [HF.out.2.1, ← HN.out]
            omega
          have HU := Lib.hid (And.intro hU (And.intro hTr hRe))
          have n1 : (k : Int) < (n : Int) := by omega
          have n2 : (0 : Int) ≤ (k : Int) := by omega
          have n3 : (n : Int) ≤ (bc : Int) := by omega
          have n4 : (k : Int) ≤ (n : Int) := by omega
          have n5 : ¬ (bc = k) := by omega
          clear hT hdB hU hTr hRe hB hlen
          go_wp2_with fail
          refine HU.out.1.mono ?_
          rintro e w5 ⟨b5, d5, ev5, rfl, hR5, hE5, hk5⟩
          have hTn := torn_short ev5 w5 hE5
          have HTn := Lib.hid (And.intro hTn hk5)
          have hcw5 : w5.cell? ⟨wb, 6, none⟩ = some (.int .i64 (k : Int)) := hk5.cellSome (by have := hcw 6; simpa using this) (by simp)
          clear hTn hR5 hE5
          go_wp2_with fail
          refine HTn.out.1.mono ?_
          rintro e w6 ⟨rfl, hw⟩
          obtain rfl := hw
          clear hcw
          go_wp2_with fail
          refine (HU.out.2.1 _ HTn.out.2).mono ?_
          rintro e w7 ⟨ev7, L7, rfl, hE7, hD7, hk7, hL7⟩
          have hcr := trunc_count d1 nmWal k
          obtain ⟨d2, hd2⟩ : ∃ d2, d2 = (d1.trunc nmWal k).1 := ⟨_, rfl⟩
          obtain ⟨r2, hr2⟩ : ∃ r2, r2 = (d1.trunc nmWal k).2 := ⟨_, rfl⟩
          have hrr : d1.trunc nmWal k = (d2, r2) := by rw [hd2, hr2]
          rw [← hr2] at hE7
          rw [← hd2] at hD7 hcr
          have hk07 : Keeps L2 wr w7 := HTn.out.2.of_nil.trans hk7
          have hL07 : ∀ x ∈ L7, x ∈ L2 ∨ wr.heap.size ≤ x := fun x hx => (hL7 x hx).imp id (fun h => Nat.le_trans HTn.out.2.size h)
          have H7 := Lib.hid (And.intro hD7 (And.intro hk07 (And.intro hL07 hrr)))
          have hct2 : d2.count < 4611686018427387904 := by have := HR.out.2.2; have := HF.out.2.2.2.2.2; omega
          clear hD7 hk07 hL07 hrr hd2 hr2 hk7 hL7 hcr
          rcases hE7.form with ⟨rfl, rfl⟩ | ⟨ty, v, rfl, hne⟩
          · have hSy := dsync H7.out.1 nmWal hct2
            have hRe : R = d2.sync nmWal := by
              rw [HU.out.2.2, H7.out.2.2.2, if_neg (by simp [DRes.isOk])]
            have HSy := Lib.hid (And.intro hSy hRe)
            clear hSy hRe hE7
            go_wp2_with fail
            refine HSy.out.1.mono ?_
            rintro e w9 ⟨ev9, L9, rfl, hE9, hD9, hk9, hL9⟩
            have H9 := Lib.hid (HFN.out w9 L9 ev9 _ hE9 hD9 (H7.out.2.1.step hk9 H7.out.2.2.1) (fun x hx => (hL9 x hx).elim (H7.out.2.2.1 x) (fun h => .inr (Nat.le_trans H7.out.2.1.size h))) HSy.out.2)
            clear hE9 hD9 hk9 hL9
            go_wp2_with fail
            go_ret2
            exact H9.out
          · have hRe : R = (d2, r2) := by
              rw [HU.out.2.2, H7.out.2.2.2, if_pos (DRes.isOk_ne hne)]
            have HSy := Lib.hid (And.intro hE7 (And.intro hRe hne))
            clear hRe hE7 hne
            go_wp2_with fail
            go_ret2
            rw [HSy.out.2.1]
            obtain ⟨hD2, hX2, hk02, hL02, -, -, -⟩ := H2.out
            obtain ⟨hW, hE, hB, hD, hk, hkd⟩ := HW.out
            exact ⟨_, _, L7, rfl, HSy.out.1, H7.out.1, hk.step H7.out.2.1 hL02, fun x hx => (H7.out.2.2.1 x hx).elim (hL02 x) (fun h => .inr (Nat.le_trans hk.size h)), fun e => absurd e HSy.out.2.2⟩
end
end Go.Proofs.YtfgmbjdeimallaaGreatDoor
/- The wal: the closures that write its file anew; lists of bytes that are owned. -/

namespace Go.Proofs.YtfgmbjdeimallaaGreatDoor
open Go.RowKit Go.Lib

section
variable {w : World} {L : List Nat} {db wb tb sb : Nat} {d : DSt} {ao : Option Addr} {c : Nat} {l : List UInt8}
set_option maxRecDepth 100000 in
theorem anew1_any (h : Disk w L db d) (hc : d.count < 4611686018427387904) (hT : w.cell? ⟨tb, 0, none⟩ = some (.pointer (some ⟨wb, 0, none⟩))) (hW : w.cell? ⟨wb, 0, none⟩ = some (.pointer (some ⟨db, 0, none⟩))) (hS : w.cell? ⟨sb, 0, none⟩ = some (.slice ao l.length c)) (hb : Rb w ao c l) (hl : l.length ≤ 1000000) (hoff : ∀ ad, ao = some ad → bys l ≠ [] → ad.block ∉ L) :
    Calls Tryz.prog 75 #[.pointer (some ⟨tb, 0, none⟩), .pointer (some ⟨sb, 0, none⟩)] w (DPost w L db (d.append nmNew l)) := by
  have hkd := (Keeps.refl [] w).drew
  have hA := dappend (h.keep0 hkd) nmNew l (by decide) (hb.keep0 hkd) (by omega) hoff hc
  have HA := Lib.hid hA
  clear hA hkd
  go_enter Tryz.func75, Tryz.ntmps75
  go_wp2_with fail
  refine wp_region_still_tail 5 (by kernel_rfl) (by kernel_rfl) ?_
  change wpStill _ _ (World.drew _) _ _ _
  simp only [List.take_succ_cons, List.take_zero, List.drop_succ_cons, List.drop_zero]
  repeat still_step
  refine wpStill_nil ?_
  change wpList _ _ _ _ _ (World.drew _)
  go_wp2_with fail
  refine HA.out.mono ?_
  rintro e w2 ⟨ev, L2, rfl, hE, hD, hk, hL⟩
  go_wp2_with fail
  go_ret
  exact ⟨ev, L2, rfl, hE, hD, (Keeps.refl L w).drew.trans hk, hL⟩
set_option maxRecDepth 100000 in
theorem anew2_any (h : Disk w L db d) (hc : d.count < 4611686018427387904) (hT : w.cell? ⟨tb, 0, none⟩ = some (.pointer (some ⟨wb, 0, none⟩))) (hW : w.cell? ⟨wb, 0, none⟩ = some (.pointer (some ⟨db, 0, none⟩))) :
    Calls Tryz.prog 76 #[.pointer (some ⟨tb, 0, none⟩)] w (DPost w L db (d.sync nmNew)) := by
  have HA := Lib.hid (dsync h nmNew hc)
  go_enter Tryz.func76, Tryz.ntmps76
  go_wp2_with fail
  refine HA.out.mono ?_
  rintro e w2 ⟨ev, L2, rfl, hE, hD, hk, hL⟩
  go_wp2_with fail
  go_ret
  exact ⟨ev, L2, rfl, hE, hD, hk, hL⟩
set_option maxRecDepth 100000 in
theorem anew3_any (h : Disk w L db d) (hc : d.count < 4611686018427387904) (hT : w.cell? ⟨tb, 0, none⟩ = some (.pointer (some ⟨wb, 0, none⟩))) (hW : w.cell? ⟨wb, 0, none⟩ = some (.pointer (some ⟨db, 0, none⟩))) :
    Calls Tryz.prog 77 #[.pointer (some ⟨tb, 0, none⟩)] w (DPost w L db (d.rename nmNew nmWal)) := by
  have HA := Lib.hid (drename h nmNew nmWal (by decide) hc)
  go_enter Tryz.func77, Tryz.ntmps77
  go_wp2_with fail
  refine HA.out.mono ?_
  rintro e w2 ⟨ev, L2, rfl, hE, hD, hk, hL⟩
  go_wp2_with fail
  go_ret
  exact ⟨ev, L2, rfl, hE, hD, hk, hL⟩
end

theorem infoBS : ∃ i z, Tryz.prog.info? 26 = some i ∧ i.zero = some z ∧ i.size = 1 ∧ i.bytes = 24 ∧ z.cells.size = 1 := by
  have h : (Tryz.prog.info? 26).map (fun i => (i.size, i.bytes, (i.zero.map fun z => z.cells.size))) = some (1, 24, some 1) := by kernel_rfl
  obtain ⟨i, hi, hx⟩ := Option.map_eq_some_iff.1 h
  simp only [Prod.mk.injEq] at hx
  obtain ⟨z, hz, hc⟩ := Option.map_eq_some_iff.1 hx.2.2
  exact ⟨i, z, hi, hz, hx.1, hx.2.1, hc⟩
theorem bsl_one (ls : List Bsl) : ∀ u ∈ ls.map Bsl.cell, u.oneCell' = true := by
  intro u hu
  obtain ⟨x, _, rfl⟩ := List.mem_map.1 hu
  rfl
/-- a list of bytes that a function made itself -/
structure BsOwn (w : World) (N : Nat) (ao : Option Addr) (c : Nat) (ls : List Bsl) : Prop where
  own : w.ownsRow N 26 1 (.slice ao ls.length c) ls.length (ls.map Bsl.cell)
  each : ∀ x ∈ ls, Own w N x.a x.c x.l
theorem BsOwn.rbs {w : World} {N : Nat} {ao : Option Addr} {c : Nat} {ls : List Bsl} (h : BsOwn w N ao c ls) : Rbs w ao c ls := by
  obtain ⟨ao', c', he, hS, _⟩ := own_sl h.own (bsl_one ls)
  simp only [Value.slice.injEq, true_and] at he
  obtain ⟨rfl, rfl⟩ := he
  exact ⟨hS, fun x hx => (h.each x hx).rb⟩
theorem BsOwn.keep0 {w w' : World} {N : Nat} {ao : Option Addr} {c : Nat} {ls : List Bsl} (h : BsOwn w N ao c ls) (hk : Keeps [] w w') : BsOwn w' N ao c ls :=
  ⟨ownsRow_keep h.own hk (by simp), fun x hx => (h.each x hx).keep0 hk⟩
theorem own_blk {w : World} {N b n : Nat} {t : TypeId} {cs : Array Value} (h : Blk w b t cs) (hN : N ≤ b) (hn : cs.size = n) (hm : n ≤ maxLen) : w.ownsRow N t 1 (.slice (some ⟨b, 0, none⟩) n n) n cs.toList := by
  subst hn
  refine ⟨by simp, .inr ⟨b, cs.size, cs, rfl, hN, h, Nat.le_refl _, hm, by simp, by simp; exact List.take_of_length_le (by simp)⟩⟩
/-- the cells of an entry in a row -/
theorem ent_run {w : World} {b o c n : Nat} {l : List Ent} (h : Sl w 5 (some ⟨b, o, none⟩) n c (ents l)) {k : Nat} {x : Ent} (hv : l[k]? = some x) : ∀ j v, x.cells.toList[j]? = some v → w.cell? ⟨b, o + k * 5 + j, none⟩ = some v := by
  intro j v hj
  have hj5 : j < 5 := by
    have := (List.getElem?_eq_some_iff.1 hj).1
    simpa using this
  have := h.cell _ rfl (k * 5 + j) v ((flat_at _ 5 (fun _ => rfl) l k j x hv hj5).trans hj)
  simpa [Nat.add_assoc] using this
end Go.Proofs.YtfgmbjdeimallaaGreatDoor
