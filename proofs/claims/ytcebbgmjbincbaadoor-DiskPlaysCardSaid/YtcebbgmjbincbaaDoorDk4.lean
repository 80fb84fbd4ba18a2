/- The disk: New, Append, Halt, Count, Used. -/
import Derived.Test.YtcebbgmjbincbaaDoorDk3

namespace Go.Proofs.YtcebbgmjbincbaaDoor
open Go.RowKit Go.Lib

/-- what a changing call leaves -/
def DPost (w : World) (L : List Nat) (db : Nat) (r : DSt × DRes) (e : Ending) (w' : World) : Prop :=
  ∃ ev L', e = .returned ev ∧ DE w' ev r.2 ∧ Disk w' L' db r.1 ∧ Keeps L w w' ∧ ∀ x ∈ L', x ∈ L ∨ w.heap.size ≤ x

section
variable {w w' : World} {L : List Nat} {db mb : Nat} {d : DSt} {fl : List (List UInt8 × FlM)}
theorem DiskAt.mget (h : DiskAt w L db d mb fl) (n : List UInt8) : Go.Proofs.YtcebbgmjbincbaaDoor.mget n d.fs = (Go.Proofs.YtcebbgmjbincbaaDoor.mget n fl).map (·.toFil) := by rw [h.fs, fils_mget]
theorem DiskAt.refs (h : DiskAt w L db d mb fl) {ev : Value} {r : DRes} (hE : DE w' ev r) (hk : Keeps [] w w') : DPost w L db (d, r) (.returned ev) w' :=
  ⟨ev, L, rfl, hE, ⟨mb, fl, h.keep hk (by simp)⟩, hk.of_nil, fun _ hx => .inl hx⟩
theorem DiskAt.mem_db (h : DiskAt w L db d mb fl) : db ∈ L := by rw [h.feet]; exact .head _
/-- the disk's own block turned -/
theorem DiskAt.own (h : DiskAt w L db d mb fl) {d' : DSt} (hk : Keeps [db] w w') (hB : Blk w' db 93 #[.map (some mb), .int .i64 (d'.room : Nat), .int .i64 (usedOf d'.fs : Nat), .int .i64 (d'.count : Nat), .int .i64 d'.halt, .bool d'.off]) (hf : d'.fs = d.fs) (ho : d'.Ok) : DiskAt w' L db d' mb fl :=
  ⟨hB, h.files.keep hk (fun x hx => by simp; rintro rfl; exact h.db_off hx), hf.trans h.fs, h.feet, ho⟩
theorem ddoes_zero (h : DiskAt w L db d mb fl) (h0 : d.halt = 0) : Calls Tryd.prog 50 #[.pointer (some ⟨db, 0, none⟩)] w fun e w' => e = .returned (.iface 98 (.int .i64 32)) ∧ DiskAt w' L db d.fall mb fl ∧ Keeps [db] w w' := by
  refine (does_zero h.blk h0).mono ?_
  rintro e w' ⟨rfl, hB, hk⟩
  exact ⟨rfl, h.own (d' := d.fall) hk hB rfl h.ok.fall, hk⟩
theorem ddoes_ok (h : DiskAt w L db d mb fl) (h0 : d.halt ≠ 0) (hc : d.count < 4611686018427387904) : Calls Tryd.prog 50 #[.pointer (some ⟨db, 0, none⟩)] w fun e w' => e = .returned .nilIface ∧ DiskAt w' L db d.tick mb fl ∧ Keeps [db] w w' := by
  refine (does_ok h.blk h0 h.ok.halt hc).mono ?_
  rintro e w' ⟨rfl, hB, hk⟩
  exact ⟨rfl, h.own (d' := d.tick) hk hB rfl h.ok.tick, hk⟩
theorem dfind_off (h : DiskAt w L db d mb fl) (ho : d.off = true) (n : List UInt8) : Calls Tryd.prog 46 #[.pointer (some ⟨db, 0, none⟩), .string ⟨n.toArray⟩] w fun e w' => e = .returned (.tuple #[.pointer none, .iface 98 (.int .i64 32)]) ∧ w' = w := find_off h.blk ho n
theorem dfind_none (h : DiskAt w L db d mb fl) (ho : d.off = false) {n : List UInt8} (hn : Go.Proofs.YtcebbgmjbincbaaDoor.mget n fl = none) : Calls Tryd.prog 46 #[.pointer (some ⟨db, 0, none⟩), .string ⟨n.toArray⟩] w fun e w' => ∃ ev, e = .returned (.tuple #[.pointer none, ev]) ∧ DE w' ev (.bad n 30) ∧ Keeps [] w w' := find_none h.blk ho h.files.map n (by rw [ptrs_mget, hn]; rfl)
theorem dfind_some (h : DiskAt w L db d mb fl) (ho : d.off = false) {n : List UInt8} {x : FlM} (hn : Go.Proofs.YtcebbgmjbincbaaDoor.mget n fl = some x) : Calls Tryd.prog 46 #[.pointer (some ⟨db, 0, none⟩), .string ⟨n.toArray⟩] w fun e w' => e = .returned (.tuple #[.pointer (some ⟨x.fb, 0, none⟩), .nilIface]) ∧ w' = w := find_some h.blk ho h.files.map n (by rw [ptrs_mget, hn]; rfl)

theorem dcount (h : DiskAt w L db d mb fl) : Calls Tryd.prog 18 #[.pointer (some ⟨db, 0, none⟩)] w fun e w' => e = .returned (.int .i64 (d.count : Nat)) ∧ w' = w := by
  have hc := h.blk.cell
  go_enter Tryd.func18, Tryd.ntmps18
  go_wp2
  go_ret
  exact ⟨rfl, rfl⟩
theorem dused (h : DiskAt w L db d mb fl) : Calls Tryd.prog 19 #[.pointer (some ⟨db, 0, none⟩)] w fun e w' => e = .returned (.int .i64 (usedOf d.fs : Nat)) ∧ w' = w := by
  have hc := h.blk.cell
  go_enter Tryd.func19, Tryd.ntmps19
  go_wp2
  go_ret
  exact ⟨rfl, rfl⟩
end

theorem dnew (r : Int) (hr : r ≤ 9223372036854775807) (w : World) : Calls Tryd.prog 10 #[.int .i64 r] w fun e w' => ∃ db L, e = .returned (.pointer (some ⟨db, 0, none⟩)) ∧ Disk w' L db ⟨[], r.toNat, 0, -1, false⟩ ∧ Keeps [] w w' ∧ ∀ x ∈ L, w.heap.size ≤ x := by
  obtain ⟨q, hq⟩ : ∃ q : Nat, q = r.toNat := ⟨_, rfl⟩
  have HQ := Lib.hid hq
  rw [← hq]
  clear hq
  have fin : DiskAt ((w.alloc (.map #[] 0)).alloc (.cells #[.map (some w.heap.size), .int .i64 (q : Nat), .int .i64 0, .int .i64 0, .int .i64 (-1), .bool false] 93)) [w.heap.size + 1, w.heap.size] (w.heap.size + 1) ⟨[], q, 0, -1, false⟩ w.heap.size [] := by
    refine ⟨(Blk.fresh_at _ _ _ (by simp)).eq (by simp [usedOf]), ⟨?_, by simp, by simp⟩, rfl, rfl, ⟨by simp [usedOf], by have := HQ.out; show q ≤ _; omega, by simp, by simp, by simp, by simp, by simp, by simp⟩⟩
    exact (MapAt.new w).keep0 ((Keeps.refl [] _).alloc _)
  have FIN := Lib.hid fin
  clear fin
  have HK := Lib.hid (((Keeps.refl [] w).alloc (.map #[] 0)).alloc (.cells #[.map (some w.heap.size), .int .i64 (q : Nat), .int .i64 0, .int .i64 0, .int .i64 (-1), .bool false] 93))
  have hmm := @run_makeMap Tryd.prog
  rcases (by omega : r < 0 ∨ r = 0 ∨ 0 < r) with h | rfl | h
  · obtain rfl : q = 0 := by rw [HQ.out]; omega
    go_enter Tryd.func10, Tryd.ntmps10
    go_wp2_with fail
    all_goals first
      | (exfalso; omega)
      | (go_ret; exact ⟨_, _, rfl, ⟨_, _, FIN.out⟩, HK.out, by simp⟩)
  · obtain rfl : q = 0 := by rw [HQ.out]; omega
    go_enter Tryd.func10, Tryd.ntmps10
    go_wp2_with fail
    all_goals first
      | (exfalso; omega)
      | (go_ret; exact ⟨_, _, rfl, ⟨_, _, FIN.out⟩, HK.out, by simp⟩)
  · obtain rfl : r = (q : Int) := by rw [HQ.out]; omega
    go_enter Tryd.func10, Tryd.ntmps10
    go_wp2_with fail
    all_goals first
      | (exfalso; omega)
      | (go_ret; exact ⟨_, _, rfl, ⟨_, _, FIN.out⟩, HK.out, by simp⟩)

theorem dhalt {w : World} {L : List Nat} {db : Nat} {d : DSt} (h : Disk w L db d) (k : Int) (hk : k ≤ 9223372036854775807) : Calls Tryd.prog 17 #[.pointer (some ⟨db, 0, none⟩), .int .i64 k] w fun e w' => e = .returned (.tuple #[]) ∧ Disk w' L db { d with halt := max k (-1) } ∧ Keeps L w w' := by
  obtain ⟨mb, fl, h⟩ := h
  have hc := h.blk.cell
  have hf := h.blk.free
  have hkp := fun v => (Keeps.refl [db] w).set (p := ⟨db, 4, none⟩) (.inl (by simp)) v
  have fin : DiskAt (w.setCell ⟨db, 4, none⟩ (.int .i64 (max k (-1)))) L db { d with halt := max k (-1) } mb fl := by
    refine h.own (d' := { d with halt := max k (-1) }) (hkp _) ((h.blk.put 4 _).eq (by simp)) rfl ⟨h.ok.used, h.ok.room, h.ok.few, h.ok.name, h.ok.sure, h.ok.most, ?_, h.ok.nodup⟩
    show -1 ≤ max k (-1) ∧ max k (-1) ≤ 9223372036854775807
    omega
  have FIN := Lib.hid fin
  have HK := Lib.hid ((hkp (.int .i64 (max k (-1)))).mono (L' := L) (by simpa using h.mem_db))
  clear fin hkp h
  rcases (by omega : k < -1 ∨ k = -1 ∨ -1 < k) with g | rfl | g
  · rw [show max k (-1) = -1 by omega] at *
    go_enter Tryd.func17, Tryd.ntmps17
    go_wp2_with fail
    all_goals first
      | (exfalso; omega)
      | (go_end0; exact ⟨rfl, ⟨_, _, FIN.out⟩, HK.out⟩)
  · rw [show max (-1 : Int) (-1) = -1 by omega] at *
    go_enter Tryd.func17, Tryd.ntmps17
    go_wp2_with fail
    all_goals first
      | (exfalso; omega)
      | (go_end0; exact ⟨rfl, ⟨_, _, FIN.out⟩, HK.out⟩)
  · rw [show max k (-1) = k by omega] at *
    go_enter Tryd.func17, Tryd.ntmps17
    go_wp2_with fail
    all_goals first
      | (exfalso; omega)
      | (go_end0; exact ⟨rfl, ⟨_, _, FIN.out⟩, HK.out⟩)
end Go.Proofs.YtcebbgmjbincbaaDoor
