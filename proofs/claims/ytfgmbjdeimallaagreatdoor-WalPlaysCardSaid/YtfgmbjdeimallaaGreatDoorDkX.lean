/- The disk's calls on plain data. -/
import Derived.Test.YtfgmbjdeimallaaGreatDoorDk1
import Derived.Test.YtfgmbjdeimallaaGreatDoorErrD
import Derived.LoopTactic
import Derived.Deep.DeepCutAuto
import Derived.Deep.CutBlock
import Derived.Deep.CutRange
namespace Go.Proofs.YtfgmbjdeimallaaGreatDoor
open Go.RowKit Go.Lib

def rightB (c : UInt8) : Bool := (decide (97 ≤ c) && decide (c ≤ 122)) || (decide (48 ≤ c) && decide (c ≤ 57)) || c == 46 || c == 45 || c == 95
/-- may this be a file's name? -/
def right (s : List UInt8) : Bool := decide (1 ≤ s.length) && decide (s.length ≤ 40) && s.all rightB

/-- a changing call is done -/
def DSt.tick (d : DSt) : DSt := { d with halt := if 0 < d.halt then d.halt - 1 else d.halt, count := d.count + 1 }
/-- the power goes -/
def DSt.fall (d : DSt) : DSt := { d with off := true }
def DSt.got (d : DSt) (n : List UInt8) : Fil := (mget n d.fs).getD ⟨[], 0⟩
def DSt.append (d : DSt) (n b : List UInt8) : DSt × DRes :=
  if d.off = true then (d, .down)
  else if right n = false then (d, .bad n 20)
  else if d.room < usedOf d.fs + b.length ∨ (mget n d.fs = none ∧ 64 ≤ d.fs.length) ∨ 1048576 < (d.got n).b.length + b.length then (d, .bad n 31)
  else if d.halt = 0 then (d.fall, .down)
  else ({ d.tick with fs := mput n ⟨(d.got n).b ++ b, (d.got n).sure⟩ d.fs }, .ok)
def DSt.find (d : DSt) (n : List UInt8) : DRes :=
  if d.off = true then .down else match mget n d.fs with
    | none => .bad n 30
    | some _ => .ok
def DSt.sync (d : DSt) (n : List UInt8) : DSt × DRes :=
  if d.off = true then (d, .down) else match mget n d.fs with
    | none => (d, .bad n 30)
    | some f => if d.halt = 0 then (d.fall, .down) else ({ d.tick with fs := mput n ⟨f.b, f.b.length⟩ d.fs }, .ok)
def DSt.trunc (d : DSt) (n : List UInt8) (k : Int) : DSt × DRes :=
  if d.off = true then (d, .down) else match mget n d.fs with
    | none => (d, .bad n 30)
    | some f => if k < 0 ∨ (f.b.length : Int) < k then (d, .bad n 40) else if d.halt = 0 then (d.fall, .down)
      else ({ d.tick with fs := mput n ⟨f.b.take k.toNat, min f.sure k.toNat⟩ d.fs }, .ok)
def DSt.rename (d : DSt) (n m : List UInt8) : DSt × DRes :=
  if d.off = true then (d, .down) else if right m = false then (d, .bad m 20) else match mget n d.fs with
    | none => (d, .bad n 30)
    | some f => if d.halt = 0 then (d.fall, .down) else if n = m then (d.tick, .ok)
      else ({ d.tick with fs := mput m f (mdel n d.fs) }, .ok)
def DSt.remove (d : DSt) (n : List UInt8) : DSt × DRes :=
  if d.off = true then (d, .down) else match mget n d.fs with
    | none => (d, .bad n 30)
    | some _ => if d.halt = 0 then (d.fall, .down) else ({ d.tick with fs := mdel n d.fs }, .ok)

/-- the names, in order -/
def DSt.names (d : DSt) : List (List UInt8) := (d.fs.map (·.1)).mergeSort fun x y => decide (x ≤ y)
/-- what a crash leaves of a file: what was sure, and so many bytes more as it keeps -/
def crashF (keep : List Int) (i : Nat) (f : Fil) : Fil :=
  let k := match keep[i]? with
    | none => 0
    | some k => (min (max k 0) ((f.b.length - f.sure : Nat) : Int)).toNat
  ⟨f.b.take (f.sure + k), f.sure + k⟩
def DSt.crash (d : DSt) (keep : List Int) : DSt :=
  { d with fs := d.fs.map (fun f => (f.1, crashF keep (d.names.idxOf f.1) f.2)), halt := -1, off := false }

theorem usedOf_mput {n : List UInt8} {f : Fil} : ∀ {fs : List (List UInt8 × Fil)}, usedOf (mput n f fs) + ((mget n fs).getD ⟨[], 0⟩).b.length = usedOf fs + f.b.length
  | [] => by simp [mput, mget, usedOf]
  | g :: r => by
    by_cases e : g.1 = n
    · simp [mput, mget, e, usedOf]; omega
    · have := usedOf_mput (n := n) (f := f) (fs := r)
      simp only [mput, if_neg e, mget, usedOf, List.map_cons, List.sum_cons] at this ⊢
      omega
theorem usedOf_mdel {n : List UInt8} : ∀ {fs : List (List UInt8 × Fil)}, usedOf (mdel n fs) + ((mget n fs).getD ⟨[], 0⟩).b.length = usedOf fs
  | [] => by simp [mdel, mget, usedOf]
  | g :: r => by
    by_cases e : g.1 = n
    · simp [mdel, mget, e, usedOf]; omega
    · have := usedOf_mdel (n := n) (fs := r)
      simp only [mdel, if_neg e, mget, usedOf, List.map_cons, List.sum_cons] at this ⊢
      omega
theorem usedOf_le {n : List UInt8} {f : Fil} {fs : List (List UInt8 × Fil)} (h : mget n fs = some f) : f.b.length ≤ usedOf fs := by
  have := usedOf_mdel (n := n) (fs := fs)
  rw [h] at this
  simp only [Option.getD_some] at this
  omega

section
variable {d : DSt} {n m b : List UInt8}
theorem DSt.Ok.tick (h : d.Ok) : d.tick.Ok := by
  refine ⟨h.used, h.room, h.few, h.name, h.sure, h.most, ?_, h.nodup⟩
  have := h.halt
  simp only [DSt.tick]
  split <;> omega
theorem DSt.Ok.fall (h : d.Ok) : d.fall.Ok := ⟨h.used, h.room, h.few, h.name, h.sure, h.most, h.halt, h.nodup⟩
theorem right_len (h : right n = true) : n.length ≤ 40 := by
  simp only [right, Bool.and_eq_true, decide_eq_true_eq] at h
  exact h.1.2
theorem DSt.got_some {f : Fil} (h : mget n d.fs = some f) : d.got n = f := by simp [DSt.got, h]
theorem DSt.got_none (h : mget n d.fs = none) : d.got n = ⟨[], 0⟩ := by simp [DSt.got, h]
theorem mget_key {α : Type} {fs : List (List UInt8 × α)} {v : α} (h : mget n fs = some v) : n ∈ fs.map (·.1) := List.mem_map.2 ⟨(n, v), mget_mem h, rfl⟩
/-- a file laid anew keeps what may be said of the disk -/
theorem DSt.Ok.put (h : d.Ok) {f : Fil} (h1 : f.sure ≤ f.b.length) (h2 : f.b.length ≤ 1048576) (h3 : usedOf d.fs + f.b.length ≤ d.room + (d.got n).b.length) (h4 : mget n d.fs = none → d.fs.length < 64 ∧ n.length ≤ 40) : ({ d with fs := mput n f d.fs } : DSt).Ok := by
  have hu := usedOf_mput (n := n) (f := f) (fs := d.fs)
  refine ⟨?_, h.room, ?_, fun x hx => ?_, fun x hx => ?_, fun x hx => ?_, h.halt, nodup_mput h.nodup⟩
  · simp only [DSt.got] at h3
    show usedOf (mput n f d.fs) ≤ d.room
    omega
  · show (mput n f d.fs).length ≤ 64
    rw [length_mput]
    have := h.few
    cases hm : mget n d.fs with
    | none => have := (h4 hm).1; simp; omega
    | some f => simp; omega
  · rcases mem_mput hx with rfl | hx
    · cases hm : mget n d.fs with
      | none => exact (h4 hm).2
      | some f' => exact h.name (n, f') (mget_mem hm)
    · exact h.name x hx
  · rcases mem_mput hx with rfl | hx
    · exact h1
    · exact h.sure x hx
  · rcases mem_mput hx with rfl | hx
    · exact h2
    · exact h.most x hx
theorem DSt.Ok.del (h : d.Ok) : ({ d with fs := mdel n d.fs } : DSt).Ok := by
  have hu := usedOf_mdel (n := n) (fs := d.fs)
  refine ⟨?_, h.room, ?_, fun x hx => h.name x (mem_mdel hx), fun x hx => h.sure x (mem_mdel hx), fun x hx => h.most x (mem_mdel hx), h.halt, nodup_mdel h.nodup⟩
  · have := h.used
    show usedOf (mdel n d.fs) ≤ d.room
    omega
  · have := congrArg List.length (keys_mdel (s := n) d.fs)
    simp only [List.length_map] at this
    have h2 := List.length_erase_le (a := n) (l := d.fs.map (·.1))
    have := h.few
    show (mdel n d.fs).length ≤ 64
    simp at h2
    omega
end
end Go.Proofs.YtfgmbjdeimallaaGreatDoor
/- The disk's inner functions: fault, down, find, does, right. -/

namespace Go.Proofs.YtfgmbjdeimallaaGreatDoor
open Go.RowKit Go.Lib

theorem zeroF (w : World) : (zeroValue 71).run Tryz.prog w = .ok (.pointer none) w := by kernel_rfl
theorem DE.ofNew (w : World) (n : List UInt8) (c : Int) : DE (w.alloc (.cells #[.string ⟨n.toArray⟩, .iface 75 (.int .i64 c)] 97)) (.iface 95 (.pointer (some ⟨w.heap.size, 0, none⟩))) (.bad n c) := ⟨_, rfl, Blk.fresh _ _ _⟩

theorem fault_any (n : List UInt8) (c : Int) (w : World) :
    Calls Tryz.prog 30 #[.string ⟨n.toArray⟩, .int .i64 c] w fun e w' => ∃ ev, e = .returned ev ∧ DE w' ev (.bad n c) ∧ Keeps [] w w' := by
  go_enter Tryz.func30, Tryz.ntmps30
  go_wp2
  go_ret
  exact ⟨_, rfl, DE.ofNew w n c, (Keeps.refl [] w).alloc _⟩

section
variable {w : World} {db mb room used count : Nat} {halt : Int} {off : Bool}
theorem down_any (h : Blk w db 70 #[.map (some mb), .int .i64 (room : Nat), .int .i64 (used : Nat), .int .i64 (count : Nat), .int .i64 halt, .bool off]) : Calls Tryz.prog 49 #[.pointer (some ⟨db, 0, none⟩)] w fun e w' => ∃ ev, e = .returned ev ∧ DE w' ev (if off = true then .down else .ok) ∧ w' = w := by
  have hc := h.cell
  go_enter Tryz.func49, Tryz.ntmps49
  cases off
  · go_wp2
    go_ret
    exact ⟨_, rfl, rfl, rfl⟩
  · go_wp2
    go_ret
    exact ⟨_, rfl, rfl, rfl⟩
theorem down_off (h : Blk w db 70 #[.map (some mb), .int .i64 (room : Nat), .int .i64 (used : Nat), .int .i64 (count : Nat), .int .i64 halt, .bool off]) (ho : off = true) : Calls Tryz.prog 49 #[.pointer (some ⟨db, 0, none⟩)] w fun e w' => e = .returned (.iface 75 (.int .i64 32)) ∧ w' = w := by
  subst ho
  refine (down_any h).mono ?_
  rintro e w' ⟨ev, rfl, h1, rfl⟩
  exact ⟨by rw [show ev = _ from h1], rfl⟩
theorem down_on (h : Blk w db 70 #[.map (some mb), .int .i64 (room : Nat), .int .i64 (used : Nat), .int .i64 (count : Nat), .int .i64 halt, .bool off]) (ho : off = false) : Calls Tryz.prog 49 #[.pointer (some ⟨db, 0, none⟩)] w fun e w' => e = .returned .nilIface ∧ w' = w := by
  subst ho
  refine (down_any h).mono ?_
  rintro e w' ⟨ev, rfl, h1, rfl⟩
  exact ⟨by rw [show ev = _ from h1], rfl⟩

theorem find_off (h : Blk w db 70 #[.map (some mb), .int .i64 (room : Nat), .int .i64 (used : Nat), .int .i64 (count : Nat), .int .i64 halt, .bool off]) (ho : off = true) (n : List UInt8) : Calls Tryz.prog 27 #[.pointer (some ⟨db, 0, none⟩), .string ⟨n.toArray⟩] w fun e w' => e = .returned (.tuple #[.pointer none, .iface 75 (.int .i64 32)]) ∧ w' = w := by
  go_enter Tryz.func27, Tryz.ntmps27
  go_wp2_with fail
  refine (down_off h ho).mono ?_
  rintro e w' ⟨rfl, hw⟩
  obtain rfl := hw.symm
  go_wp2_with fail
  go_ret2
  exact ⟨rfl, rfl⟩
theorem find_none (h : Blk w db 70 #[.map (some mb), .int .i64 (room : Nat), .int .i64 (used : Nat), .int .i64 (count : Nat), .int .i64 halt, .bool off]) (ho : off = false) {fs : List (List UInt8 × Value)} (hM : MapAt w mb fs) (n : List UInt8) (hn : mget n fs = none) :
    Calls Tryz.prog 27 #[.pointer (some ⟨db, 0, none⟩), .string ⟨n.toArray⟩] w fun e w' => ∃ ev, e = .returned (.tuple #[.pointer none, ev]) ∧ DE w' ev (.bad n 30) ∧ Keeps [] w w' := by
  have hc := h.cell
  have hl := run_lookup_kv hM Tryz.underlying68 Tryz.underlying9 (zeroF w) n
  rw [hn] at hl
  simp only [Option.getD_none, Option.isSome_none] at hl
  go_enter Tryz.func27, Tryz.ntmps27
  go_wp2_with fail
  refine (down_on h ho).mono ?_
  rintro e w' ⟨rfl, hw⟩
  obtain rfl := hw.symm
  go_wp2_with fail
  refine (fault_any n 30 _).mono ?_
  rintro e w2 ⟨ev, rfl, hE, hk⟩
  go_wp2_with fail
  go_ret2
  exact ⟨ev, rfl, hE, hk⟩
theorem find_some (h : Blk w db 70 #[.map (some mb), .int .i64 (room : Nat), .int .i64 (used : Nat), .int .i64 (count : Nat), .int .i64 halt, .bool off]) (ho : off = false) {fs : List (List UInt8 × Value)} (hM : MapAt w mb fs) (n : List UInt8) {fb : Nat} (hn : mget n fs = some (.pointer (some ⟨fb, 0, none⟩))) :
    Calls Tryz.prog 27 #[.pointer (some ⟨db, 0, none⟩), .string ⟨n.toArray⟩] w fun e w' => e = .returned (.tuple #[.pointer (some ⟨fb, 0, none⟩), .nilIface]) ∧ w' = w := by
  have hc := h.cell
  have hl := run_lookup_kv hM Tryz.underlying68 Tryz.underlying9 (zeroF w) n
  rw [hn] at hl
  simp only [Option.getD_some, Option.isSome_some] at hl
  go_enter Tryz.func27, Tryz.ntmps27
  go_wp2_with fail
  refine (down_on h ho).mono ?_
  rintro e w' ⟨rfl, hw⟩
  obtain rfl := hw.symm
  go_wp2_with fail
  go_ret2
  exact ⟨rfl, rfl⟩

theorem does_zero (h : Blk w db 70 #[.map (some mb), .int .i64 (room : Nat), .int .i64 (used : Nat), .int .i64 (count : Nat), .int .i64 halt, .bool off]) (h0 : halt = 0) : Calls Tryz.prog 31 #[.pointer (some ⟨db, 0, none⟩)] w fun e w' =>
    e = .returned (.iface 75 (.int .i64 32)) ∧ Blk w' db 70 #[.map (some mb), .int .i64 (room : Nat), .int .i64 (used : Nat), .int .i64 (count : Nat), .int .i64 halt, .bool true] ∧ Keeps [db] w w' := by
  subst h0
  have hc := h.cell
  have hf := h.free
  go_enter Tryz.func31, Tryz.ntmps31
  go_wp2_with fail
  have h2 := h.put 5 (.bool true)
  have hk := (Keeps.refl [db] w).set (p := ⟨db, 5, none⟩) (.inl (by simp)) (.bool true)
  generalize World.setCell w _ _ = w1 at *
  replace h2 := h2.eq (cs' := #[.map (some mb), .int .i64 (room : Nat), .int .i64 (used : Nat), .int .i64 (count : Nat), .int .i64 0, .bool true]) (by simp)
  refine (down_off h2 rfl).mono ?_
  rintro e w' ⟨rfl, hw⟩
  obtain rfl := hw.symm
  go_wp2_with fail
  go_ret
  exact ⟨rfl, h2, hk⟩
theorem does_ok (h : Blk w db 70 #[.map (some mb), .int .i64 (room : Nat), .int .i64 (used : Nat), .int .i64 (count : Nat), .int .i64 halt, .bool off]) (h0 : halt ≠ 0) (h1 : -1 ≤ halt ∧ halt ≤ 9223372036854775807) (hcnt : count < 4611686018427387904) : Calls Tryz.prog 31 #[.pointer (some ⟨db, 0, none⟩)] w fun e w' =>
    e = .returned .nilIface ∧ Blk w' db 70 #[.map (some mb), .int .i64 (room : Nat), .int .i64 (used : Nat), .int .i64 ((count + 1 : Nat) : Int), .int .i64 (if 0 < halt then halt - 1 else halt), .bool off] ∧ Keeps [db] w w' := by
  have hc := h.cell
  have hf := h.free
  have q1 : IntKind.i64.wrap ((count : Int) + 1) = count + 1 := IntWalk.i64_in _ (by omega)
  by_cases hp : 0 < halt
  · have q2 : IntKind.i64.wrap (halt - 1) = halt - 1 := IntWalk.i64_in _ (by omega)
    rw [if_pos hp]
    have n1 : halt > 0 := hp
    go_enter Tryz.func31, Tryz.ntmps31
    go_wp2_with fail
    go_ret
    refine ⟨rfl, ((h.put 4 (.int .i64 (halt - 1))).put 3 (.int .i64 ((count + 1 : Nat) : Int))).eq (by simp), ((Keeps.refl [db] w).set (p := ⟨db, 4, none⟩) (.inl (by simp)) _).set (p := ⟨db, 3, none⟩) (.inl (by simp)) _⟩
  · rw [if_neg hp]
    have n1 : ¬ (halt > 0) := hp
    go_enter Tryz.func31, Tryz.ntmps31
    go_wp2_with fail
    go_ret
    refine ⟨rfl, (h.put 3 (.int .i64 ((count + 1 : Nat) : Int))).eq (by simp), (Keeps.refl [db] w).set (p := ⟨db, 3, none⟩) (.inl (by simp)) _⟩
end

theorem index_string {s : List UInt8} {i : Nat} {c : UInt8} (h : s[i]? = some c) (w : World) : (Instr.index 9 (.string ⟨s.toArray⟩) (.int .i64 (i : Int))).run Tryz.prog w = .ok (.int .u8 (c.toNat : Nat)) w := by
  obtain ⟨hl, rfl⟩ := List.getElem?_eq_some_iff.1 h
  have hz : (⟨s.toArray⟩ : ByteArray).size = s.length := by simp [ByteArray.size]
  rw [run_index_string w 9 _ _ _ Tryz.underlying9, dif_pos ⟨by omega, by rw [hz]; omega⟩]
  rfl

theorem all_take_succ {n : List UInt8} {i : Nat} {c : UInt8} (h : n[i]? = some c) (p : UInt8 → Bool) : (n.take (i + 1)).all p = ((n.take i).all p && p c) := by
  rw [List.take_add_one, h]
  simp
theorem rightB_eq (c : UInt8) : rightB c = true ↔ (97 ≤ c.toNat ∧ c.toNat ≤ 122) ∨ (48 ≤ c.toNat ∧ c.toNat ≤ 57) ∨ c.toNat = 46 ∨ c.toNat = 45 ∨ c.toNat = 95 := by
  simp only [rightB, Bool.or_eq_true, Bool.and_eq_true, decide_eq_true_eq, beq_iff_eq, UInt8.le_iff_toNat_le, ← UInt8.toNat_inj]
  have e1 : (97 : UInt8).toNat = 97 := rfl
  have e2 : (122 : UInt8).toNat = 122 := rfl
  have e3 : (48 : UInt8).toNat = 48 := rfl
  have e4 : (57 : UInt8).toNat = 57 := rfl
  have e5 : (46 : UInt8).toNat = 46 := rfl
  have e6 : (45 : UInt8).toNat = 45 := rfl
  have e7 : (95 : UInt8).toNat = 95 := rfl
  rw [e1, e2, e3, e4, e5, e6, e7]
  omega

set_option maxRecDepth 100000 in
set_option maxHeartbeats 4000000 in
theorem right_any (n : List UInt8) (w : World) (hn : n.length ≤ 1000000) : Calls Tryz.prog 29 #[.string ⟨n.toArray⟩] w fun e w' => e = .returned (.bool (right n)) ∧ w' = w := by
  obtain ⟨q, hq⟩ : ∃ q : Bool, q = (decide (1 ≤ n.length) && decide (n.length ≤ 40)) := ⟨_, rfl⟩
  have HQ := Lib.hid hq
  have hz : (⟨n.toArray⟩ : ByteArray).size = n.length := by simp [ByteArray.size]
  go_enter Tryz.func29, Tryz.ntmps29
  rcases (by omega : n.length = 0 ∨ (1 ≤ n.length ∧ n.length ≤ 40) ∨ 40 < n.length) with h | ⟨h1, h2⟩ | h
  · obtain rfl : q = false := by rw [hq]; simp [h]
    have hn0 : n = [] := List.eq_nil_of_length_eq_zero h
    subst hn0
    clear hq hn h hz
    go_wp2_with fail
    go_loopw [3, 16] (fun v3 v16 wr => v3 = .bool false ∧ v16 = .int .i64 0 ∧ wr = w) (fun _ _ _ => 0)
    case atStart => exact ⟨rfl, rfl, rfl⟩
    case round =>
      obtain ⟨rfl, rfl, hw⟩ := hrel
      obtain rfl := hw.symm
      go_wp2_with fail
      go_ret
      exact ⟨rfl, rfl⟩
  · obtain rfl : q = true := by rw [hq]; simp [h1, h2]
    have HL := Lib.hid hz
    have n1 : (1 : Int) ≤ (n.length : Int) := by omega
    have n2 : (n.length : Int) ≤ 40 := by omega
    clear hq
    go_wp2_with fail
    go_loopw [3, 16] (fun v3 v16 wr => ∃ i : Nat, v3 = .bool ((n.take i).all rightB) ∧ v16 = .int .i64 (i : Int) ∧ i ≤ n.length ∧ wr = w) (fun _ v _ => n.length - (intOf v).toNat)
    case atStart => exact ⟨0, by simp, rfl, Nat.zero_le _, rfl⟩
    case round =>
      obtain ⟨i, rfl, rfl, hin, hw⟩ := hrel
      obtain rfl := hw.symm
      rcases (by omega : i = n.length ∨ i < n.length) with hie | hil
      · have m1 : ¬ ((i : Int) < (n.length : Int)) := by omega
        have e : (n.take i).all rightB = right n := by
          rw [hie, List.take_length]
          simp [right, h1, h2]
        have HE := Lib.hid e
        obtain ⟨r, hr⟩ : ∃ r : Bool, r = (n.take i).all rightB := ⟨_, rfl⟩
        rw [← hr]
        clear e hie
        have HR := Lib.hid hr
        clear hr
        go_wp2_with fail
        go_ret
        exact ⟨by first | rfl | exact congrArg (fun b => Ending.returned (Value.bool b)) (HR.out.trans HE.out), rfl⟩
      · obtain ⟨c, hc⟩ : ∃ c, n[i]? = some c := ⟨_, List.getElem?_eq_getElem hil⟩
        have m1 : (i : Int) < (n.length : Int) := by omega
        have hs := all_take_succ hc rightB
        obtain ⟨r, hr⟩ : ∃ r : Bool, r = (n.take i).all rightB := ⟨_, rfl⟩
        rw [← hr] at hs ⊢
        have HS := Lib.hid hs
        have HB := Lib.hid (rightB_eq c)
        have HX := Lib.hid (show (⟨n.toArray⟩ : ByteArray)[i]'(by rw [hz]; exact hil) = c by obtain ⟨_, rfl⟩ := List.getElem?_eq_some_iff.1 hc; rfl)
        have q1 : IntKind.i64.wrap ((i : Int) + 1) = i + 1 := IntWalk.i64_in _ (by omega)
        clear hs hr hc
        cases r
        · go_wp2_with fail
          go_roundw
          case rel => exact ⟨i + 1, by rw [HS.out]; rfl, by simp, by omega, by first | rfl | trivial⟩
          case measure => simp [intOf]; omega
        · have HC : ∀ b : Bool, (b = true ↔ (97 ≤ c.toNat ∧ c.toNat ≤ 122) ∨ (48 ≤ c.toNat ∧ c.toNat ≤ 57) ∨ c.toNat = 46 ∨ c.toNat = 45 ∨ c.toNat = 95) → (n.take (i + 1)).all rightB = b := fun b hb => by
            rw [HS.out, Bool.true_and, Bool.eq_iff_iff, HB.out, hb]
          have HC' := Lib.hid HC
          clear HC HB HS
          go_wp2_with fail
          all_goals go_roundw
          all_goals first
            | (simp [intOf]; omega)
            | (refine ⟨i + 1, ?_, by simp, by omega, by first | rfl | trivial⟩
               have e : (⟨n.toArray⟩ : ByteArray)[i]'(by rw [HL.out]; exact hil) = c := HX.out
               simp only [e] at *
               refine congrArg Value.bool (HC'.out _ ?_).symm
               simp only [Bool.or_eq_true, decide_eq_true_eq, beq_iff_eq, true_iff]
               omega)
  · obtain rfl : q = false := by rw [hq]; simp; omega
    have HL := Lib.hid hz
    have n1 : (1 : Int) ≤ (n.length : Int) := by omega
    have n2 : ¬ ((n.length : Int) ≤ 40) := by omega
    have hf : right n = false := by simp [right]; omega
    rw [hf]
    clear hq hf
    go_wp2_with fail
    go_loopw [3, 16] (fun v3 v16 wr => ∃ i : Nat, v3 = .bool false ∧ v16 = .int .i64 (i : Int) ∧ i ≤ n.length ∧ wr = w) (fun _ v _ => n.length - (intOf v).toNat)
    case atStart => exact ⟨0, rfl, rfl, Nat.zero_le _, rfl⟩
    case round =>
      obtain ⟨i, rfl, rfl, hin, hw⟩ := hrel
      obtain rfl := hw.symm
      rcases (by omega : i = n.length ∨ i < n.length) with hie | hil
      · have m1 : ¬ ((i : Int) < (n.length : Int)) := by omega
        clear hie
        go_wp2_with fail
        go_ret
        exact ⟨rfl, rfl⟩
      · obtain ⟨c, hc⟩ : ∃ c, n[i]? = some c := ⟨_, List.getElem?_eq_getElem hil⟩
        have m1 : (i : Int) < (n.length : Int) := by omega
        have q1 : IntKind.i64.wrap ((i : Int) + 1) = i + 1 := IntWalk.i64_in _ (by omega)
        clear hc
        go_wp2_with fail
        go_roundw
        case rel => exact ⟨i + 1, rfl, by simp, by omega, by first | rfl | trivial⟩
        case measure => simp [intOf]; omega
end Go.Proofs.YtfgmbjdeimallaaGreatDoor
/- The disk: New, Append, Halt, Count, Used. -/

namespace Go.Proofs.YtfgmbjdeimallaaGreatDoor
open Go.RowKit Go.Lib

/-- what a changing call leaves -/
def DPost (w : World) (L : List Nat) (db : Nat) (r : DSt × DRes) (e : Ending) (w' : World) : Prop :=
  ∃ ev L', e = .returned ev ∧ DE w' ev r.2 ∧ Disk w' L' db r.1 ∧ Keeps L w w' ∧ ∀ x ∈ L', x ∈ L ∨ w.heap.size ≤ x

section
variable {w w' : World} {L : List Nat} {db mb : Nat} {d : DSt} {fl : List (List UInt8 × FlM)}
theorem DiskAt.mget (h : DiskAt w L db d mb fl) (n : List UInt8) : Go.Proofs.YtfgmbjdeimallaaGreatDoor.mget n d.fs = (Go.Proofs.YtfgmbjdeimallaaGreatDoor.mget n fl).map (·.toFil) := by rw [h.fs, fils_mget]
theorem DiskAt.refs (h : DiskAt w L db d mb fl) {ev : Value} {r : DRes} (hE : DE w' ev r) (hk : Keeps [] w w') : DPost w L db (d, r) (.returned ev) w' :=
  ⟨ev, L, rfl, hE, ⟨mb, fl, h.keep hk (by simp)⟩, hk.of_nil, fun _ hx => .inl hx⟩
theorem DiskAt.mem_db (h : DiskAt w L db d mb fl) : db ∈ L := by rw [h.feet]; exact .head _
/-- the disk's own block turned -/
theorem DiskAt.own (h : DiskAt w L db d mb fl) {d' : DSt} (hk : Keeps [db] w w') (hB : Blk w' db 70 #[.map (some mb), .int .i64 (d'.room : Nat), .int .i64 (usedOf d'.fs : Nat), .int .i64 (d'.count : Nat), .int .i64 d'.halt, .bool d'.off]) (hf : d'.fs = d.fs) (ho : d'.Ok) : DiskAt w' L db d' mb fl :=
  ⟨hB, h.files.keep hk (fun x hx => by simp; rintro rfl; exact h.db_off hx), hf.trans h.fs, h.feet, ho⟩
theorem ddoes_zero (h : DiskAt w L db d mb fl) (h0 : d.halt = 0) : Calls Tryz.prog 31 #[.pointer (some ⟨db, 0, none⟩)] w fun e w' => e = .returned (.iface 75 (.int .i64 32)) ∧ DiskAt w' L db d.fall mb fl ∧ Keeps [db] w w' := by
  refine (does_zero h.blk h0).mono ?_
  rintro e w' ⟨rfl, hB, hk⟩
  exact ⟨rfl, h.own (d' := d.fall) hk hB rfl h.ok.fall, hk⟩
theorem ddoes_ok (h : DiskAt w L db d mb fl) (h0 : d.halt ≠ 0) (hc : d.count < 4611686018427387904) : Calls Tryz.prog 31 #[.pointer (some ⟨db, 0, none⟩)] w fun e w' => e = .returned .nilIface ∧ DiskAt w' L db d.tick mb fl ∧ Keeps [db] w w' := by
  refine (does_ok h.blk h0 h.ok.halt hc).mono ?_
  rintro e w' ⟨rfl, hB, hk⟩
  exact ⟨rfl, h.own (d' := d.tick) hk hB rfl h.ok.tick, hk⟩
theorem dfind_off (h : DiskAt w L db d mb fl) (ho : d.off = true) (n : List UInt8) : Calls Tryz.prog 27 #[.pointer (some ⟨db, 0, none⟩), .string ⟨n.toArray⟩] w fun e w' => e = .returned (.tuple #[.pointer none, .iface 75 (.int .i64 32)]) ∧ w' = w := find_off h.blk ho n
theorem dfind_none (h : DiskAt w L db d mb fl) (ho : d.off = false) {n : List UInt8} (hn : Go.Proofs.YtfgmbjdeimallaaGreatDoor.mget n fl = none) : Calls Tryz.prog 27 #[.pointer (some ⟨db, 0, none⟩), .string ⟨n.toArray⟩] w fun e w' => ∃ ev, e = .returned (.tuple #[.pointer none, ev]) ∧ DE w' ev (.bad n 30) ∧ Keeps [] w w' := find_none h.blk ho h.files.map n (by rw [ptrs_mget, hn]; rfl)
theorem dfind_some (h : DiskAt w L db d mb fl) (ho : d.off = false) {n : List UInt8} {x : FlM} (hn : Go.Proofs.YtfgmbjdeimallaaGreatDoor.mget n fl = some x) : Calls Tryz.prog 27 #[.pointer (some ⟨db, 0, none⟩), .string ⟨n.toArray⟩] w fun e w' => e = .returned (.tuple #[.pointer (some ⟨x.fb, 0, none⟩), .nilIface]) ∧ w' = w := find_some h.blk ho h.files.map n (by rw [ptrs_mget, hn]; rfl)

end

theorem dnew (r : Int) (hr : r ≤ 9223372036854775807) (w : World) : Calls Tryz.prog 7 #[.int .i64 r] w fun e w' => ∃ db L, e = .returned (.pointer (some ⟨db, 0, none⟩)) ∧ Disk w' L db ⟨[], r.toNat, 0, -1, false⟩ ∧ Keeps [] w w' ∧ ∀ x ∈ L, w.heap.size ≤ x := by
  obtain ⟨q, hq⟩ : ∃ q : Nat, q = r.toNat := ⟨_, rfl⟩
  have HQ := Lib.hid hq
  rw [← hq]
  clear hq
  have fin : DiskAt ((w.alloc (.map #[] 0)).alloc (.cells #[.map (some w.heap.size), .int .i64 (q : Nat), .int .i64 0, .int .i64 0, .int .i64 (-1), .bool false] 70)) [w.heap.size + 1, w.heap.size] (w.heap.size + 1) ⟨[], q, 0, -1, false⟩ w.heap.size [] := by
    refine ⟨(Blk.fresh_at _ _ _ (by simp)).eq (by simp [usedOf]), ⟨?_, by simp, by simp⟩, rfl, rfl, ⟨by simp [usedOf], by have := HQ.out; show q ≤ _; omega, by simp, by simp, by simp, by simp, by simp, by simp⟩⟩
    exact (MapAt.new w).keep0 ((Keeps.refl [] _).alloc _)
  have FIN := Lib.hid fin
  clear fin
  have HK := Lib.hid (((Keeps.refl [] w).alloc (.map #[] 0)).alloc (.cells #[.map (some w.heap.size), .int .i64 (q : Nat), .int .i64 0, .int .i64 0, .int .i64 (-1), .bool false] 70))
  have hmm := @run_makeMap Tryz.prog
  rcases (by omega : r < 0 ∨ r = 0 ∨ 0 < r) with h | rfl | h
  · obtain rfl : q = 0 := by rw [HQ.out]; omega
    go_enter Tryz.func7, Tryz.ntmps7
    go_wp2_with fail
    all_goals first
      | (exfalso; omega)
      | (go_ret; exact ⟨_, _, rfl, ⟨_, _, FIN.out⟩, HK.out, by simp⟩)
  · obtain rfl : q = 0 := by rw [HQ.out]; omega
    go_enter Tryz.func7, Tryz.ntmps7
    go_wp2_with fail
    all_goals first
      | (exfalso; omega)
      | (go_ret; exact ⟨_, _, rfl, ⟨_, _, FIN.out⟩, HK.out, by simp⟩)
  · obtain rfl : r = (q : Int) := by rw [HQ.out]; omega
    go_enter Tryz.func7, Tryz.ntmps7
    go_wp2_with fail
    all_goals first
      | (exfalso; omega)
      | (go_ret; exact ⟨_, _, rfl, ⟨_, _, FIN.out⟩, HK.out, by simp⟩)

theorem dhalt {w : World} {L : List Nat} {db : Nat} {d : DSt} (h : Disk w L db d) (k : Int) (hk : k ≤ 9223372036854775807) : Calls Tryz.prog 15 #[.pointer (some ⟨db, 0, none⟩), .int .i64 k] w fun e w' => e = .returned (.tuple #[]) ∧ Disk w' L db { d with halt := max k (-1) } ∧ Keeps L w w' := by
  obtain ⟨mb, fl, h⟩ := h
  have hc := h.blk.cell
  have hf := h.blk.free
  have hkp := fun v => (Keeps.refl [db] w).set (p := ⟨db, 4, none⟩) (.inl (by simp)) v
  have fin : DiskAt (w.setCell ⟨db, 4, none⟩ (.int .i64 (max k (-1)))) L db { d with halt := max k (-1) } mb fl := by
    refine h.own (d' := { d with halt := max k (-1) }) (hkp _) ((h.blk.put 4 _).eq (by simp)) rfl ⟨h.ok.used, h.ok.room, h.ok.few, h.ok.name, h.ok.sure, h.ok.most, ?_, h.ok.nodup⟩
    show -1 ≤ max k (-1) ∧ max k (-1) ≤ 9223372036854775807
    omega
  have FIN := Lib.hid fin
  have HK := Lib.hid ((hkp (.int .i64 (max k (-1)))).mono (L' := L) (by simpa using h.mem_db))
  clear fin hkp h
  rcases (by omega : k < -1 ∨ k = -1 ∨ -1 < k) with g | rfl | g
  · rw [show max k (-1) = -1 by omega] at *
    go_enter Tryz.func15, Tryz.ntmps15
    go_wp2_with fail
    all_goals first
      | (exfalso; omega)
      | (go_end0; exact ⟨rfl, ⟨_, _, FIN.out⟩, HK.out⟩)
  · rw [show max (-1 : Int) (-1) = -1 by omega] at *
    go_enter Tryz.func15, Tryz.ntmps15
    go_wp2_with fail
    all_goals first
      | (exfalso; omega)
      | (go_end0; exact ⟨rfl, ⟨_, _, FIN.out⟩, HK.out⟩)
  · rw [show max k (-1) = k by omega] at *
    go_enter Tryz.func15, Tryz.ntmps15
    go_wp2_with fail
    all_goals first
      | (exfalso; omega)
      | (go_end0; exact ⟨rfl, ⟨_, _, FIN.out⟩, HK.out⟩)
end Go.Proofs.YtfgmbjdeimallaaGreatDoor
