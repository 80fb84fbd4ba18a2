/- Snapshots: Load. -/
import Derived.Test.YtcebbgmjbincbaaDoorSn1

namespace Go.Proofs.YtcebbgmjbincbaaDoor
open Go.RowKit Go.Lib

abbrev nmSnap : List UInt8 := [115, 110, 97, 112]
abbrev nmFresh : List UInt8 := [115, 110, 97, 112, 46, 110, 101, 119]
theorem as_nilW (t : Addr) (w : World) : Calls Tryd.prog 51 #[.nilIface, .iface 123 (.pointer (some t))] w fun ev w' => ev = .returned (.bool false) ∧ w' = w := by
  have e0 := fun W : World => run_eql_iface_nil_left (P := Tryd.prog) W 123 (.pointer (some t)) Tryd.underlying28
  go_enter Tryd.func51, Tryd.ntmps51
  go_wp2
  go_ret
  exact ⟨rfl, rfl⟩

section
variable {w : World} {L : List Nat} {db : Nat} {d : DSt}
set_option maxRecDepth 100000 in
set_option maxHeartbeats 4000000 in
theorem load_none (h : Disk w L db d) (ho : d.off = false) (hm : mget nmSnap d.fs = none) : Calls Tryd.prog 45 #[.pointer (some ⟨db, 0, none⟩)] w fun e w' => e = .returned (.tuple #[.agg #[.int .u64 0, .int .u64 0, .slice none 0 0], .bool false, .nilIface]) ∧ Keeps [] w w' := by
  have hX := Blk.fresh w 69 #[.int .u64 0, .int .u64 0, .slice none 0 0]
  have hkX := (Keeps.refl [] w).alloc (.cells #[.int .u64 0, .int .u64 0, .slice none 0 0] 69)
  have hR := dread (h.keep0 hkX) nmSnap
  rw [show d.read nmSnap = ([], .bad nmSnap 30) by simp [DSt.read, ho, hm]] at hR
  have HR := Lib.hid hR
  clear hR
  go_enter Tryd.func45, Tryd.ntmps45
  go_wp2_with fail
  refine HR.out.mono ?_
  rintro e w2 ⟨bo, bc, ev, rfl, hE, hO, hk2⟩
  have hX2 := hX.keep hk2 (by simp)
  have hI := is_de hE 30 (by decide)
  rw [show decide ((DRes.bad nmSnap 30).cls = 30) = true from rfl] at hI
  have hk02 := hkX.trans hk2
  clear hX hkX hk2 hE hO
  generalize hsb : w.heap.size = sb at *
  go_wp2_with fail
  refine hI.mono ?_
  rintro e w3 ⟨rfl, hw⟩
  obtain rfl := hw.symm
  clear hI
  go_wp2_with (refine wpList_store_agg rfl rfl 69 _ _ rfl sb 0 rfl _ rfl 69 _ hX2 Tryd.sizeSnap (by simp) rfl _ rfl ?_; intro w6 hM6 hk6)
  refine bodyPost_ret (results_ctt rfl rfl hM6 Tryd.underlying69 rfl Tryd.sizeSnap) rfl ⟨rfl, hk02.step hk6 (fun x hx => .inr (by simp at hx; omega))⟩

set_option maxRecDepth 100000 in
set_option maxHeartbeats 4000000 in
theorem load_some (h : Disk w L db d) (ho : d.off = false) {f : Fil} (hm : mget nmSnap d.fs = some f) (ix tm : Nat) (l : List UInt8) (hf : f.b = frame (snB ix tm l)) (hl : l.length ≤ 262080) (hi : ix < 18446744073709551616) (ht : tm < 18446744073709551616) :
    Calls Tryd.prog 45 #[.pointer (some ⟨db, 0, none⟩)] w fun e w' => ∃ bo c, e = .returned (.tuple #[.agg #[.int .u64 (ix : Nat), .int .u64 (tm : Nat), .slice bo l.length c], .bool true, .nilIface]) ∧ Own w' w.heap.size bo c l ∧ Keeps [] w w' := by
  have hX := Blk.fresh w 69 #[.int .u64 0, .int .u64 0, .slice none 0 0]
  have hkX := (Keeps.refl [] w).alloc (.cells #[.int .u64 0, .int .u64 0, .slice none 0 0] 69)
  have hR := dread (h.keep0 hkX) nmSnap
  rw [show d.read nmSnap = (frame (snB ix tm l), .ok) by simp [DSt.read, ho, hm, hf]] at hR
  have HR := Lib.hid hR
  clear hR
  go_enter Tryd.func45, Tryd.ntmps45
  go_wp2_with fail
  refine HR.out.mono ?_
  rintro e w2 ⟨bo, bc, ev, rfl, hE, hO, hk2⟩
  obtain rfl : ev = .nilIface := hE
  have hX2 := hX.keep hk2 (by simp)
  have hk02 := hkX.trans hk2
  clear hX hkX hk2
  generalize hsb : w.heap.size = sb at *
  go_wp2_with fail
  refine (is_nil 30 w2).mono ?_
  rintro e w3 ⟨rfl, hw⟩
  obtain rfl := hw
  have hD := decode_any ix tm bo bc l w2 hO.rb hl hi ht
  have HD := Lib.hid hD
  clear hD hO
  go_wp2_with fail
  refine HD.out.mono ?_
  rintro e w3 ⟨b3, c3, rfl, hO3, hk3⟩
  have hk03 := hk02.trans hk3
  have hX3 := hX2.keep hk3 (by simp)
  have hs2 := hX2.lt
  clear hk02 hk3 hX2
  go_wp2_with fail
  refine (as_nilW _ _).mono ?_
  rintro e w4 ⟨rfl, hw⟩
  have hkA := ((Keeps.refl [] w3).alloc (.cells #[.int .u64 (ix : Nat), .int .u64 (tm : Nat), .slice b3 l.length c3] 69)).alloc (.cells #[.pointer none] 122)
  have hA4 : Blk w4 w3.heap.size 69 #[.int .u64 (ix : Nat), .int .u64 (tm : Nat), .slice b3 l.length c3] := by rw [hw]; exact (Blk.fresh w3 69 _).alloc _
  rw [← hw] at hkA
  clear hw
  have hX4 := hX3.keep hkA (by simp)
  have hO4 := hO3.keep0 hkA
  have hk04 := hk03.trans hkA
  clear hX3 hO3 hk03 hkA
  generalize hsc : w3.heap.size = sc at *
  go_wp2_with (first
    | (refine wpList_store_agg rfl rfl 69 _ _ rfl sb 0 rfl _ rfl 69 _ hX4 Tryd.sizeSnap (by simp) rfl _ rfl ?_; intro w6 hM6 hk6)
    | (refine wpList_load_agg rfl _ _ rfl sc 0 3 rfl 69 _ _ hA4 Tryd.underlying69 rfl Tryd.sizeSnap (by simp) _ rfl ?_))
  refine bodyPost_ret (results_ctt rfl rfl hM6 Tryd.underlying69 rfl Tryd.sizeSnap) rfl ⟨b3, c3, rfl, ?_, ?_⟩
  · refine (hO4.older (by omega)).keep hk6 (fun x hx => ?_)
    have h1 := (hO4.lt x hx).1
    have h2 := hX4.lt
    simp
    omega
  · exact hk04.step hk6 (fun x hx => .inr (by simp at hx; omega))
end
end Go.Proofs.YtcebbgmjbincbaaDoor
