/- The disk's inner functions: fault, down, find, does, right. -/
import Derived.Test.YtcebbgmjbincbaaDoorDk2
import Derived.LoopTactic
import Derived.Deep.DeepCutAuto
import Derived.Deep.CutBlock
import Derived.Deep.CutRange

namespace Go.Proofs.YtcebbgmjbincbaaDoor
open Go.RowKit Go.Lib

theorem zeroF (w : World) : (zeroValue 94).run Tryd.prog w = .ok (.pointer none) w := by kernel_rfl
theorem DE.ofNew (w : World) (n : List UInt8) (c : Int) : DE (w.alloc (.cells #[.string ⟨n.toArray⟩, .iface 98 (.int .i64 c)] 125)) (.iface 122 (.pointer (some ⟨w.heap.size, 0, none⟩))) (.bad n c) := ⟨_, rfl, Blk.fresh _ _ _⟩

theorem fault_any (n : List UInt8) (c : Int) (w : World) :
    Calls Tryd.prog 49 #[.string ⟨n.toArray⟩, .int .i64 c] w fun e w' => ∃ ev, e = .returned ev ∧ DE w' ev (.bad n c) ∧ Keeps [] w w' := by
  go_enter Tryd.func49, Tryd.ntmps49
  go_wp2
  go_ret
  exact ⟨_, rfl, DE.ofNew w n c, (Keeps.refl [] w).alloc _⟩

section
variable {w : World} {db mb room used count : Nat} {halt : Int} {off : Bool}
theorem down_any (h : Blk w db 93 #[.map (some mb), .int .i64 (room : Nat), .int .i64 (used : Nat), .int .i64 (count : Nat), .int .i64 halt, .bool off]) : Calls Tryd.prog 62 #[.pointer (some ⟨db, 0, none⟩)] w fun e w' => ∃ ev, e = .returned ev ∧ DE w' ev (if off = true then .down else .ok) ∧ w' = w := by
  have hc := h.cell
  go_enter Tryd.func62, Tryd.ntmps62
  cases off
  · go_wp2
    go_ret
    exact ⟨_, rfl, rfl, rfl⟩
  · go_wp2
    go_ret
    exact ⟨_, rfl, rfl, rfl⟩
theorem down_off (h : Blk w db 93 #[.map (some mb), .int .i64 (room : Nat), .int .i64 (used : Nat), .int .i64 (count : Nat), .int .i64 halt, .bool off]) (ho : off = true) : Calls Tryd.prog 62 #[.pointer (some ⟨db, 0, none⟩)] w fun e w' => e = .returned (.iface 98 (.int .i64 32)) ∧ w' = w := by
  subst ho
  refine (down_any h).mono ?_
  rintro e w' ⟨ev, rfl, h1, rfl⟩
  exact ⟨by rw [show ev = _ from h1], rfl⟩
theorem down_on (h : Blk w db 93 #[.map (some mb), .int .i64 (room : Nat), .int .i64 (used : Nat), .int .i64 (count : Nat), .int .i64 halt, .bool off]) (ho : off = false) : Calls Tryd.prog 62 #[.pointer (some ⟨db, 0, none⟩)] w fun e w' => e = .returned .nilIface ∧ w' = w := by
  subst ho
  refine (down_any h).mono ?_
  rintro e w' ⟨ev, rfl, h1, rfl⟩
  exact ⟨by rw [show ev = _ from h1], rfl⟩

theorem find_off (h : Blk w db 93 #[.map (some mb), .int .i64 (room : Nat), .int .i64 (used : Nat), .int .i64 (count : Nat), .int .i64 halt, .bool off]) (ho : off = true) (n : List UInt8) : Calls Tryd.prog 46 #[.pointer (some ⟨db, 0, none⟩), .string ⟨n.toArray⟩] w fun e w' => e = .returned (.tuple #[.pointer none, .iface 98 (.int .i64 32)]) ∧ w' = w := by
  go_enter Tryd.func46, Tryd.ntmps46
  go_wp2_with fail
  refine (down_off h ho).mono ?_
  rintro e w' ⟨rfl, hw⟩
  obtain rfl := hw.symm
  go_wp2_with fail
  go_ret2
  exact ⟨rfl, rfl⟩
theorem find_none (h : Blk w db 93 #[.map (some mb), .int .i64 (room : Nat), .int .i64 (used : Nat), .int .i64 (count : Nat), .int .i64 halt, .bool off]) (ho : off = false) {fs : List (List UInt8 × Value)} (hM : MapAt w mb fs) (n : List UInt8) (hn : mget n fs = none) :
    Calls Tryd.prog 46 #[.pointer (some ⟨db, 0, none⟩), .string ⟨n.toArray⟩] w fun e w' => ∃ ev, e = .returned (.tuple #[.pointer none, ev]) ∧ DE w' ev (.bad n 30) ∧ Keeps [] w w' := by
  have hc := h.cell
  have hl := run_lookup_kv hM Tryd.underlying91 Tryd.underlying9 (zeroF w) n
  rw [hn] at hl
  simp only [Option.getD_none, Option.isSome_none] at hl
  go_enter Tryd.func46, Tryd.ntmps46
  go_wp2_with fail
  refine (down_on h ho).mono ?_
  rintro e w' ⟨rfl, hw⟩
  obtain rfl := hw.symm
  go_wp2_with fail
  refine (fault_any n 30 _).mono ?_
  rintro e w2 ⟨ev, rfl, hE, hk⟩
  go_wp2_with fail
  go_ret2
  exact ⟨ev, rfl, hE, hk⟩
theorem find_some (h : Blk w db 93 #[.map (some mb), .int .i64 (room : Nat), .int .i64 (used : Nat), .int .i64 (count : Nat), .int .i64 halt, .bool off]) (ho : off = false) {fs : List (List UInt8 × Value)} (hM : MapAt w mb fs) (n : List UInt8) {fb : Nat} (hn : mget n fs = some (.pointer (some ⟨fb, 0, none⟩))) :
    Calls Tryd.prog 46 #[.pointer (some ⟨db, 0, none⟩), .string ⟨n.toArray⟩] w fun e w' => e = .returned (.tuple #[.pointer (some ⟨fb, 0, none⟩), .nilIface]) ∧ w' = w := by
  have hc := h.cell
  have hl := run_lookup_kv hM Tryd.underlying91 Tryd.underlying9 (zeroF w) n
  rw [hn] at hl
  simp only [Option.getD_some, Option.isSome_some] at hl
  go_enter Tryd.func46, Tryd.ntmps46
  go_wp2_with fail
  refine (down_on h ho).mono ?_
  rintro e w' ⟨rfl, hw⟩
  obtain rfl := hw.symm
  go_wp2_with fail
  go_ret2
  exact ⟨rfl, rfl⟩

theorem does_zero (h : Blk w db 93 #[.map (some mb), .int .i64 (room : Nat), .int .i64 (used : Nat), .int .i64 (count : Nat), .int .i64 halt, .bool off]) (h0 : halt = 0) : Calls Tryd.prog 50 #[.pointer (some ⟨db, 0, none⟩)] w fun e w' =>
    e = .returned (.iface 98 (.int .i64 32)) ∧ Blk w' db 93 #[.map (some mb), .int .i64 (room : Nat), .int .i64 (used : Nat), .int .i64 (count : Nat), .int .i64 halt, .bool true] ∧ Keeps [db] w w' := by
  subst h0
  have hc := h.cell
  have hf := h.free
  go_enter Tryd.func50, Tryd.ntmps50
  go_wp2_with fail
  have h2 := h.put 5 (.bool true)
  have hk := (Keeps.refl [db] w).set (p := ⟨db, 5, none⟩) (.inl (by simp)) (.bool true)
  generalize World.setCell w _ _ = w1 at *
  replace h2 := h2.eq (cs' := #[.map (some mb), .int .i64 (room : Nat), .int .i64 (used : Nat), .int .i64 (count : Nat), .int .i64 0, .bool true]) (by simp)
  refine (down_off h2 rfl).mono ?_
  rintro e w' ⟨rfl, hw⟩
  obtain rfl := hw.symm
  go_wp2_with fail
  go_ret
  exact ⟨rfl, h2, hk⟩
theorem does_ok (h : Blk w db 93 #[.map (some mb), .int .i64 (room : Nat), .int .i64 (used : Nat), .int .i64 (count : Nat), .int .i64 halt, .bool off]) (h0 : halt ≠ 0) (h1 : -1 ≤ halt ∧ halt ≤ 9223372036854775807) (hcnt : count < 4611686018427387904) : Calls Tryd.prog 50 #[.pointer (some ⟨db, 0, none⟩)] w fun e w' =>
    e = .returned .nilIface ∧ Blk w' db 93 #[.map (some mb), .int .i64 (room : Nat), .int .i64 (used : Nat), .int .i64 ((count + 1 : Nat) : Int), .int .i64 (if 0 < halt then halt - 1 else halt), .bool off] ∧ Keeps [db] w w' := by
  have hc := h.cell
  have hf := h.free
  have q1 : IntKind.i64.wrap ((count : Int) + 1) = count + 1 := IntWalk.i64_in _ (by omega)
  by_cases hp : 0 < halt
  · have q2 : IntKind.i64.wrap (halt - 1) = halt - 1 := IntWalk.i64_in _ (by omega)
    rw [if_pos hp]
    have n1 : halt > 0 := hp
    go_enter Tryd.func50, Tryd.ntmps50
    go_wp2_with fail
    go_ret
    refine ⟨rfl, ((h.put 4 (.int .i64 (halt - 1))).put 3 (.int .i64 ((count + 1 : Nat) : Int))).eq (by simp), ((Keeps.refl [db] w).set (p := ⟨db, 4, none⟩) (.inl (by simp)) _).set (p := ⟨db, 3, none⟩) (.inl (by simp)) _⟩
  · rw [if_neg hp]
    have n1 : ¬ (halt > 0) := hp
    go_enter Tryd.func50, Tryd.ntmps50
    go_wp2_with fail
    go_ret
    refine ⟨rfl, (h.put 3 (.int .i64 ((count + 1 : Nat) : Int))).eq (by simp), (Keeps.refl [db] w).set (p := ⟨db, 3, none⟩) (.inl (by simp)) _⟩
end

theorem index_string {s : List UInt8} {i : Nat} {c : UInt8} (h : s[i]? = some c) (w : World) : (Instr.index 9 (.string ⟨s.toArray⟩) (.int .i64 (i : Int))).run Tryd.prog w = .ok (.int .u8 (c.toNat : Nat)) w := by
  obtain ⟨hl, rfl⟩ := List.getElem?_eq_some_iff.1 h
  have hz : (⟨s.toArray⟩ : ByteArray).size = s.length := by simp [ByteArray.size]
  rw [run_index_string w 9 _ _ _ Tryd.underlying9, dif_pos ⟨by omega, by rw [hz]; omega⟩]
  rfl

theorem all_take_succ {n : List UInt8} {i : Nat} {c : UInt8} (h : n[i]? = some c) (p : UInt8 → Bool) : (n.take (i + 1)).all p = ((n.take i).all p && p c) := by
  rw [List.take_add_one, h]
  simp
theorem rightB_eq (c : UInt8) : rightB c = true ↔ (97 ≤ c.toNat ∧ c.toNat ≤ 122) ∨ (48 ≤ c.toNat ∧ c.toNat ≤ 57) ∨ c.toNat = 46 ∨ c.toNat = 45 ∨ c.toNat = 95 := by
  simp only [rightB, Bool.or_eq_true, Bool.and_eq_true, decide_eq_true_eq, beq_iff_eq, UInt8.le_iff_toNat_le, ← UInt8.toNat_inj]
  have e1 : (97 : UInt8).toNat = 97 := rfl
  have e2 : (122 : UInt8).toNat = 122 := rfl
  have e3 : (48 : UInt8).toNat = 48 := rfl
  have e4 : (57 : UInt8).toNat = 57 := rfl
  have e5 : (46 : UInt8).toNat = 46 := rfl
  have e6 : (45 : UInt8).toNat = 45 := rfl
  have e7 : (95 : UInt8).toNat = 95 := rfl
  rw [e1, e2, e3, e4, e5, e6, e7]
  omega

set_option maxRecDepth 100000 in
set_option maxHeartbeats 4000000 in
theorem right_any (n : List UInt8) (w : World) (hn : n.length ≤ 1000000) : Calls Tryd.prog 48 #[.string ⟨n.toArray⟩] w fun e w' => e = .returned (.bool (right n)) ∧ w' = w := by
  obtain ⟨q, hq⟩ : ∃ q : Bool, q = (decide (1 ≤ n.length) && decide (n.length ≤ 40)) := ⟨_, rfl⟩
  have HQ := Lib.hid hq
  have hz : (⟨n.toArray⟩ : ByteArray).size = n.length := by simp [ByteArray.size]
  go_enter Tryd.func48, Tryd.ntmps48
  rcases (by omega : n.length = 0 ∨ (1 ≤ n.length ∧ n.length ≤ 40) ∨ 40 < n.length) with h | ⟨h1, h2⟩ | h
  · obtain rfl : q = false := by rw [hq]; simp [h]
    have hn0 : n = [] := List.eq_nil_of_length_eq_zero h
    subst hn0
    clear hq hn h hz
    go_wp2_with fail
    go_loopw [3, 16] (fun v3 v16 wr => v3 = .bool false ∧ v16 = .int .i64 0 ∧ wr = w) (fun _ _ _ => 0)
    case atStart => exact ⟨rfl, rfl, rfl⟩
    case round =>
      obtain ⟨rfl, rfl, hw⟩ := hrel
      obtain rfl := hw.symm
      go_wp2_with fail
      go_ret
      exact ⟨rfl, rfl⟩
  · obtain rfl : q = true := by rw [hq]; simp [h1, h2]
    have HL := Lib.hid hz
    have n1 : (1 : Int) ≤ (n.length : Int) := by omega
    have n2 : (n.length : Int) ≤ 40 := by omega
    clear hq
    go_wp2_with fail
    go_loopw [3, 16] (fun v3 v16 wr => ∃ i : Nat, v3 = .bool ((n.take i).all rightB) ∧ v16 = .int .i64 (i : Int) ∧ i ≤ n.length ∧ wr = w) (fun _ v _ => n.length - (intOf v).toNat)
    case atStart => exact ⟨0, by simp, rfl, Nat.zero_le _, rfl⟩
    case round =>
      obtain ⟨i, rfl, rfl, hin, hw⟩ := hrel
      obtain rfl := hw.symm
      rcases (by omega : i = n.length ∨ i < n.length) with hie | hil
      · have m1 : ¬ ((i : Int) < (n.length : Int)) := by omega
        have e : (n.take i).all rightB = right n := by
          rw [hie, List.take_length]
          simp [right, h1, h2]
        have HE := Lib.hid e
        obtain ⟨r, hr⟩ : ∃ r : Bool, r = (n.take i).all rightB := ⟨_, rfl⟩
        rw [← hr]
        clear e hie
        have HR := Lib.hid hr
        clear hr
        go_wp2_with fail
        go_ret
        exact ⟨by first | rfl | exact congrArg (fun b => Ending.returned (Value.bool b)) (HR.out.trans HE.out), rfl⟩
      · obtain ⟨c, hc⟩ : ∃ c, n[i]? = some c := ⟨_, List.getElem?_eq_getElem hil⟩
        have m1 : (i : Int) < (n.length : Int) := by omega
        have hs := all_take_succ hc rightB
        obtain ⟨r, hr⟩ : ∃ r : Bool, r = (n.take i).all rightB := ⟨_, rfl⟩
        rw [← hr] at hs ⊢
        have HS := Lib.hid hs
        have HB := Lib.hid (rightB_eq c)
        have HX := Lib.hid (show (⟨n.toArray⟩ : ByteArray)[i]'(by rw [hz]; exact hil) = c by obtain ⟨_, rfl⟩ := List.getElem?_eq_some_iff.1 hc; rfl)
        have q1 : IntKind.i64.wrap ((i : Int) + 1) = i + 1 := IntWalk.i64_in _ (by omega)
        clear hs hr hc
        cases r
        · go_wp2_with fail
          go_roundw
          case rel => exact ⟨i + 1, by rw [HS.out]; rfl, by simp, by omega, by first | rfl | trivial⟩
          case measure => simp [intOf]; omega
        · have HC : ∀ b : Bool, (b = true ↔ (97 ≤ c.toNat ∧ c.toNat ≤ 122) ∨ (48 ≤ c.toNat ∧ c.toNat ≤ 57) ∨ c.toNat = 46 ∨ c.toNat = 45 ∨ c.toNat = 95) → (n.take (i + 1)).all rightB = b := fun b hb => by
            rw [HS.out, Bool.true_and, Bool.eq_iff_iff, HB.out, hb]
          have HC' := Lib.hid HC
          clear HC HB HS
          go_wp2_with fail
          all_goals go_roundw
          all_goals first
            | (simp [intOf]; omega)
            | (refine ⟨i + 1, ?_, by simp, by omega, by first | rfl | trivial⟩
               have e : (⟨n.toArray⟩ : ByteArray)[i]'(by rw [HL.out]; exact hil) = c := HX.out
               simp only [e] at *
               refine congrArg Value.bool (HC'.out _ ?_).symm
               simp only [Bool.or_eq_true, decide_eq_true_eq, beq_iff_eq, true_iff]
               omega)
  · obtain rfl : q = false := by rw [hq]; simp; omega
    have HL := Lib.hid hz
    have n1 : (1 : Int) ≤ (n.length : Int) := by omega
    have n2 : ¬ ((n.length : Int) ≤ 40) := by omega
    have hf : right n = false := by simp [right]; omega
    rw [hf]
    clear hq hf
    go_wp2_with fail
    go_loopw [3, 16] (fun v3 v16 wr => ∃ i : Nat, v3 = .bool false ∧ v16 = .int .i64 (i : Int) ∧ i ≤ n.length ∧ wr = w) (fun _ v _ => n.length - (intOf v).toNat)
    case atStart => exact ⟨0, rfl, rfl, Nat.zero_le _, rfl⟩
    case round =>
      obtain ⟨i, rfl, rfl, hin, hw⟩ := hrel
      obtain rfl := hw.symm
      rcases (by omega : i = n.length ∨ i < n.length) with hie | hil
      · have m1 : ¬ ((i : Int) < (n.length : Int)) := by omega
        clear hie
        go_wp2_with fail
        go_ret
        exact ⟨rfl, rfl⟩
      · obtain ⟨c, hc⟩ : ∃ c, n[i]? = some c := ⟨_, List.getElem?_eq_getElem hil⟩
        have m1 : (i : Int) < (n.length : Int) := by omega
        have q1 : IntKind.i64.wrap ((i : Int) + 1) = i + 1 := IntWalk.i64_in _ (by omega)
        clear hc
        go_wp2_with fail
        go_roundw
        case rel => exact ⟨i + 1, rfl, by simp, by omega, by first | rfl | trivial⟩
        case measure => simp [intOf]; omega
end Go.Proofs.YtcebbgmjbincbaaDoor
