/- Numbers as bytes: PutUint, PutInt, PutText, of the program and of the document. -/
import Derived.Test.YtknnhnpcgefchaaDoorBy
import Derived.Lib.Varint
import Derived.Lib.Zigzag
import Derived.OpenShut
import Derived.Laws.BitsAllLaws
import Derived.Laws.BytesString
import Derived.Laws.BytesArg
import Derived.Test.YtknnhnpcgefchaaDoorTr27
import Derived.Lib.SlBytesConst
import Derived.Test.YtknnhnpcgefchaaDoorTrL

namespace Go.Proofs.YtknnhnpcgefchaaDoor
open Go.RowKit Go.Lib

theorem u8_wrap (m : Nat) : IntKind.u8.wrap (m : Int) = (m : Int) % 256 := by simp [IntKind.wrap, IntKind.bits, IntKind.signed]
theorem u8_or (m : Nat) : bits .or .u8 ((m : Int) % 256) 128 = (((m % 128 + 128).toUInt8.toNat : Nat) : Int) := by
  rw [u8_or128_any _ (by omega) (by omega)]
  have : (m % 128 + 128).toUInt8.toNat = m % 128 + 128 := by
    simp only [Nat.toUInt8, UInt8.toNat_ofNat']
    omega
  rw [this]
  omega
theorem u8_of (m : Nat) (h : m < 128) : (m : Int) % 256 = ((m.toUInt8.toNat : Nat) : Int) := by
  have : m.toUInt8.toNat = m := by
    simp only [Nat.toUInt8, UInt8.toNat_ofNat']
    omega
  rw [this]
  omega

set_option maxRecDepth 100000 in
set_option maxHeartbeats 4000000 in
theorem putUint (n : Nat) (w : World) (hn : n < 18446744073709551616) :
    Calls Tryd.prog 27 #[.int .u64 n] w fun e w' => ∃ ao c, e = .returned (.slice ao (uvarint n).length c) ∧ Own w' w.heap.size ao c (uvarint n) ∧ Keeps [] w w' := by
  obtain ⟨i, z, hi, hz, hsz, hby, hzc⟩ := infoB
  go_enter Tryd.func27, Tryd.ntmps27
  go_wp2_with fail
  go_loopw [0, 3] (fun v s wr => ∃ (m : Nat) (ao : Option Addr) (c : Nat) (l : List UInt8), v = .int .u64 (m : Int) ∧ s = .slice ao l.length c ∧ m ≤ n ∧ l ++ uvarint m = uvarint n ∧ Own wr w.heap.size ao c l ∧ Keeps [] w wr) (fun v _ _ => (intOf v).toNat)
  case atStart => exact ⟨n, none, 0, [], rfl, rfl, Nat.le_refl _, rfl, Own.nil _ _, Keeps.refl _ _⟩
  case round =>
    obtain ⟨m, ao, c, l, rfl, rfl, hmn, hl, hO, hk⟩ := hrel
    have hll : l.length ≤ 10 := by have := uvarint_length64 hn; rw [← hl] at this; simp at this; omega
    have k1 := u8_wrap m
    by_cases hm : m < 128
    · have hlt : ¬ ((128 : Int) ≤ (m : Int)) := by omega
      have k2 := u8_of m hm
      rw [uvarint_small hm] at hl
      generalize m.toUInt8 = x at *
      go_wp2_with (at_builtin; refine wpList_append_by _ rfl _ _ 30 30 rfl (w.heap.size) 5 i z 1 1 Tryd.underlying30 hi hz hsz hby hzc (ao) _ (c) _ rfl (hO.keep0 ((Keeps.refl [] wr).alloc _)) _ rfl 1 _ ((rb1 (Blk.fresh _ _ _)).src Tryd.underlying30) (by unfold maxLen; omega) (by omega) (by have := hk.size; simp; omega) ?_; intro ao' c' w' hO' hk' hb')
      have hO2 := Own.of hO' (bys_append l [x]).symm
      rw [hl] at hO2
      have hlen : l.length + 1 = (uvarint n).length := by rw [← hl]; simp
      rw [hlen]
      go_ret
      exact ⟨ao', c', rfl, hO2, (hk.alloc _).own hk' (hO.keep0 ((Keeps.refl [] wr).alloc _))⟩
    · have hlt : ((128 : Int) ≤ (m : Int)) := by omega
      have k2 := u8_or m
      rw [uvarint_big (by omega)] at hl
      generalize (m % 128 + 128).toUInt8 = x at *
      go_wp2_with (at_builtin; refine wpList_append_by _ rfl _ _ 30 30 rfl (w.heap.size) 5 i z 1 1 Tryd.underlying30 hi hz hsz hby hzc (ao) _ (c) _ rfl (hO.keep0 ((Keeps.refl [] wr).alloc _)) _ rfl 1 _ ((rb1 (Blk.fresh _ _ _)).src Tryd.underlying30) (by unfold maxLen; omega) (by omega) (by have := hk.size; simp; omega) ?_; intro ao' c' w' hO' hk' hb')
      have hO2 := Own.of hO' (bys_append l [x]).symm
      go_roundw
      case rel => exact ⟨m / 128, ao', c', l ++ [x], by simp, by simp, by omega, by simpa using hl, hO2, (hk.alloc _).own hk' (hO.keep0 ((Keeps.refl [] wr).alloc _))⟩
      case measure => simp [intOf]; omega

theorem zigzag_lt' {k : Int} (h : (Lit.int .i64 k).wf = true) : zigzag k < 18446744073709551616 := by
  have := bounds_i64 h
  exact zigzag_lt (by omega) (by omega)

end Go.Proofs.YtknnhnpcgefchaaDoor
/- Sums of bytes: Sum of the program and of the document. -/

namespace Go.Proofs.YtknnhnpcgefchaaDoor
open Go.RowKit Go.Lib

/-- one bit -/
def crc1 (s : Nat) : Nat := if s % 2 = 1 then (s / 2) ^^^ 3988292384 else s / 2
def crcN : Nat → Nat → Nat
  | 0, s => s
  | n + 1, s => crcN n (crc1 s)
def crcF (s : Nat) : List UInt8 → Nat
  | [] => s
  | b :: l => crcF (crcN 8 (s ^^^ b.toNat)) l
theorem crcF_nil (s : Nat) : crcF s [] = s := rfl
theorem crcF_cons (s : Nat) (b : UInt8) (l : List UInt8) : crcF s (b :: l) = crcF (crcN 8 (s ^^^ b.toNat)) l := rfl
/-- the sum of bytes -/
def crc (l : List UInt8) : Nat := 4294967295 - crcF 4294967295 l

theorem crc1_lt {s : Nat} (h : s < 4294967296) : crc1 s < 4294967296 := by
  unfold crc1
  split
  · exact Nat.xor_lt_two_pow (n := 32) (by omega) (by decide)
  · omega
theorem crcN_lt : ∀ (n : Nat) {s : Nat}, s < 4294967296 → crcN n s < 4294967296
  | 0, _, h => h
  | n + 1, _, h => crcN_lt n (crc1_lt h)
theorem xor_lt {s : Nat} (h : s < 4294967296) (b : UInt8) : s ^^^ b.toNat < 4294967296 := Nat.xor_lt_two_pow (n := 32) h (by have := b.toNat_lt; omega)
theorem crcF_lt : ∀ (l : List UInt8) {s : Nat}, s < 4294967296 → crcF s l < 4294967296
  | [], _, h => h
  | b :: l, _, h => crcF_lt l (crcN_lt 8 (xor_lt h b))

/-- what the code reckons for one bit -/
theorem crcStep (s : Nat) (h : s < 4294967296) : ∃ m v u : Nat, bits .and .u32 (s : Int) 1 = (m : Int) ∧ IntKind.u32.wrap (-(m : Int)) = (v : Int) ∧ bits .and .u32 3988292384 (v : Int) = (u : Int) ∧ bits .xor .u32 ((s : Int) / 2) (u : Int) = (crc1 s : Int) := by
  have h1 : bits .and .u32 (s : Int) 1 = ((s % 2 : Nat) : Int) := by
    have := u32_and_nat s 1 h (by decide)
    rw [nat_mask1] at this
    exact this
  have h4 : ((s : Int) / 2) = ((s / 2 : Nat) : Int) := by omega
  rcases Nat.mod_two_eq_zero_or_one s with e | e
  · refine ⟨0, 0, 0, by rw [h1, e], by decide, by decide, ?_⟩
    have := u32_xor_nat (s / 2) 0 (by omega) (by decide)
    rw [h4, this, Nat.xor_zero]
    unfold crc1
    rw [if_neg (by omega)]
  · refine ⟨1, 4294967295, 3988292384, by rw [h1, e], by decide, by decide, ?_⟩
    have := u32_xor_nat (s / 2) 3988292384 (by omega) (by decide)
    rw [h4]
    unfold crc1
    rw [if_pos e]
    exact this

theorem xor_ones32 (b : Nat) (hb : b < 2 ^ 32) : (2 ^ 32 - 1) ^^^ b = 2 ^ 32 - 1 - b := by
  apply Nat.eq_of_testBit_eq
  intro i
  rw [Nat.testBit_xor, Nat.testBit_two_pow_sub_one, show 2 ^ 32 - 1 - b = 2 ^ 32 - (b + 1) by omega, Nat.testBit_two_pow_sub_succ hb]
  by_cases hi : i < 32
  · simp [hi]
  · have : b.testBit i = false := Nat.testBit_lt_two_pow (Nat.lt_of_lt_of_le hb (Nat.pow_le_pow_right (by decide) (by omega)))
    simp [hi, this]
theorem crcEnd (l : List UInt8) : bits .xor .u32 IntKind.u32.max (crcF 4294967295 l : Int) = (crc l : Int) := by
  have h := crcF_lt l (s := 4294967295) (by decide)
  have e : IntKind.u32.max = ((2 ^ 32 - 1 : Nat) : Int) := by decide
  rw [e, u32_xor_nat _ _ (by decide) h, xor_ones32 _ h]
  rfl

end Go.Proofs.YtknnhnpcgefchaaDoor
/- The document's numbers, integers, texts and sums as bytes; bytes held against each other. -/

namespace Go.Proofs.YtknnhnpcgefchaaDoor
open Go.RowKit Go.Lib

set_option maxRecDepth 100000 in
set_option maxHeartbeats 4000000 in
theorem putUintR (n : Nat) (w : World) (hn : n < 18446744073709551616) :
    Calls Tryd.prog 28 #[.int .u64 n] w fun e w' => ∃ ao c, e = .returned (.slice ao (uvarint n).length c) ∧ Own w' w.heap.size ao c (uvarint n) ∧ Keeps [] w w' := by
  obtain ⟨i, z, hi, hz, hsz, hby, hzc⟩ := infoB
  go_enter Tryd.func28, Tryd.ntmps28
  go_wp2_with fail
  go_loopw [0, 3] (fun v s wr => ∃ (m : Nat) (ao : Option Addr) (c : Nat) (l : List UInt8), v = .int .u64 (m : Int) ∧ s = .slice ao l.length c ∧ m ≤ n ∧ l ++ uvarint m = uvarint n ∧ Own wr w.heap.size ao c l ∧ Keeps [] w wr) (fun v _ _ => (intOf v).toNat)
  case atStart => exact ⟨n, none, 0, [], rfl, rfl, Nat.le_refl _, rfl, Own.nil _ _, Keeps.refl _ _⟩
  case round =>
    obtain ⟨m, ao, c, l, rfl, rfl, hmn, hl, hO, hk⟩ := hrel
    have hll : l.length ≤ 10 := by have := uvarint_length64 hn; rw [← hl] at this; simp at this; omega
    by_cases hm : m < 128
    · have hlt : ¬ ((128 : Int) ≤ (m : Int)) := by omega
      have k1 := u8_wrap m
      have k2 := u8_of m hm
      rw [uvarint_small hm] at hl
      generalize m.toUInt8 = x at *
      go_wp2_with (at_builtin; refine wpList_append_by _ rfl _ _ 30 30 rfl (w.heap.size) 5 i z 1 1 Tryd.underlying30 hi hz hsz hby hzc (ao) _ (c) _ rfl (hO.keep0 ((Keeps.refl [] wr).alloc _)) _ rfl 1 _ ((rb1 (Blk.fresh _ _ _)).src Tryd.underlying30) (by unfold maxLen; omega) (by omega) (by have := hk.size; simp; omega) ?_; intro ao' c' w' hO' hk' hb')
      have hO2 := Own.of hO' (bys_append l [x]).symm
      rw [hl] at hO2
      have hlen : l.length + 1 = (uvarint n).length := by rw [← hl]; simp
      rw [hlen]
      go_ret
      exact ⟨ao', c', rfl, hO2, (hk.alloc _).own hk' (hO.keep0 ((Keeps.refl [] wr).alloc _))⟩
    · have hlt : ((128 : Int) ≤ (m : Int)) := by omega
      have k1 : IntKind.u8.wrap ((m : Int) % 128) = (m : Int) % 128 := by simp [IntKind.wrap, IntKind.bits, IntKind.signed]; omega
      have k2 : IntKind.u8.wrap ((m : Int) % 128 + 128) = (((m % 128 + 128).toUInt8.toNat : Nat) : Int) := by
        have : (m % 128 + 128).toUInt8.toNat = m % 128 + 128 := by
          simp only [Nat.toUInt8, UInt8.toNat_ofNat']
          omega
        rw [this]
        simp [IntKind.wrap, IntKind.bits, IntKind.signed]
        omega
      rw [uvarint_big (by omega)] at hl
      generalize (m % 128 + 128).toUInt8 = x at *
      go_wp2_with (at_builtin; refine wpList_append_by _ rfl _ _ 30 30 rfl (w.heap.size) 5 i z 1 1 Tryd.underlying30 hi hz hsz hby hzc (ao) _ (c) _ rfl (hO.keep0 ((Keeps.refl [] wr).alloc _)) _ rfl 1 _ ((rb1 (Blk.fresh _ _ _)).src Tryd.underlying30) (by unfold maxLen; omega) (by omega) (by have := hk.size; simp; omega) ?_; intro ao' c' w' hO' hk' hb')
      have hO2 := Own.of hO' (bys_append l [x]).symm
      go_roundw
      case rel => exact ⟨m / 128, ao', c', l ++ [x], by simp, by simp, by omega, by simpa using hl, hO2, (hk.alloc _).own hk' (hO.keep0 ((Keeps.refl [] wr).alloc _))⟩
      case measure => simp [intOf]; omega

set_option maxRecDepth 100000 in
theorem putTextR (s : ByteArray) (w : World) (hs : s.size ≤ 1000000000) :
    Calls Tryd.prog 29 #[.string s] w fun e w' => ∃ ao c, e = .returned (.slice ao (uvarint s.size ++ s.data.toList).length c) ∧ Own w' w.heap.size ao c (uvarint s.size ++ s.data.toList) ∧ Keeps [] w w' := by
  obtain ⟨i, z, hi, hz, hsz, hby, hzc⟩ := infoB
  have hll := uvarint_length64 (x := s.size) (by omega)
  have hsl : s.data.toList.length = s.size := by rw [Array.length_toList]; rfl
  go_enter Tryd.func29, Tryd.ntmps29
  go_wp2_with fail
  refine (putUintR s.size w (by omega)).mono ?_
  rintro e w1 ⟨ao, c, rfl, hO, hk⟩
  go_wp2_with (at_builtin; refine wpList_append_by _ rfl _ _ 30 9 rfl w.heap.size 5 i z 1 1 Tryd.underlying30 hi hz hsz hby hzc ao _ c _ rfl hO _ rfl s.size _ (Src.ofString _ Tryd.underlying9 s) (by unfold maxLen; omega) (by omega) hk.size ?_; intro ao' c' w' hO' hk' hb')
  have hO2 := Own.of hO' (bys_append _ s.data.toList).symm
  have hlen : (uvarint s.size).length + s.size = (uvarint s.size ++ s.data.toList).length := by simp [hsl]
  rw [hlen]
  go_ret
  exact ⟨ao', c', rfl, hO2, hk.own hk' hO⟩

theorem strOf_bys (l : List UInt8) : strOfNums (l.map fun b => ((b.toNat : Nat) : Int)) = ⟨l.toArray⟩ := by
  unfold strOfNums
  congr 1
  simp [List.map_map, Function.comp_def]

/-- bytes as a string -/
theorem run_text {w : World} {ao : Option Addr} {c : Nat} {l : List UInt8} (h : Rb w ao c l) (src dst : TypeId) (hs : Tryd.prog.underlying src = some (.slice 5)) (hd : Tryd.prog.underlying dst = some .string) :
    (convert src dst (.slice ao l.length c)).run Tryd.prog w = .ok (.string ⟨l.toArray⟩) w := by
  cases ao with
  | none =>
    obtain rfl := h.nil rfl
    have hl : l.length = 0 := by have := h.cap; omega
    obtain rfl : l = [] := List.eq_nil_of_length_eq_zero hl
    exact run_convert_bytes_nil w src _ hs Tryd.underlying5 0 0 dst hd
  | some ad =>
    rcases Nat.eq_zero_or_pos l.length with h0 | hpos
    · obtain rfl : l = [] := List.eq_nil_of_length_eq_zero h0
      rw [run_convert_bytes_string w src dst _ _ _ c hs Tryd.underlying5 hd]
      exact run_bytesToString w ad 0 c [] (by simp [loadCells, loadCellsFrom])
    have hsp := h.spot (by have := h.cap; omega) _ rfl
    obtain ⟨b, o, s⟩ := ad
    simp only at hsp
    subst hsp
    have := run_convert_bytes_arg w src _ hs Tryd.underlying5 b o l.length c (l.map fun b => ((b.toNat : Nat) : Int)) (by simp) (fun i hi => by
      have h1 := h.cell _ rfl i _ (bys_at hi)
      simp only at h1
      rw [h1]
      simp [List.getD, hi]) dst hd
    rw [strOf_bys] at this
    exact this

theorem str_eq (l m : List UInt8) : ((⟨l.toArray⟩ : ByteArray) = ⟨m.toArray⟩) ↔ l = m := by
  constructor
  · intro h
    have h2 := congrArg (fun x : ByteArray => x.data.toList) h
    simpa using h2
  · rintro rfl; rfl

set_option maxRecDepth 100000 in
theorem bytes_any (ao bo : Option Addr) (c d : Nat) (l m : List UInt8) (w : World) (h : Rb w ao c l) (h' : Rb w bo d m) :
    Calls Tryd.prog 17 #[.slice ao l.length c, .slice bo m.length d] w fun e w' => e = .returned (.bool (l == m)) ∧ w' = w := by
  have r1 := run_text h 30 9 Tryd.underlying30 Tryd.underlying9
  have r2 := run_text h' 30 9 Tryd.underlying30 Tryd.underlying9
  go_enter Tryd.func17, Tryd.ntmps17
  go_wp2_with fail
  go_ret
  exact ⟨rfl, rfl⟩
end Go.Proofs.YtknnhnpcgefchaaDoor
/- The tree itself: Clone, Dump. -/

namespace Go.Proofs.YtknnhnpcgefchaaDoor
open Go.RowKit Go.Lib

def tx (b : Bs) : Bs := textB uvarint b
def enc (p : KV) : Bs := tx p.1 ++ tx p.2
/-- the dump's bytes ahead of what is left -/
def outB (n : Nat) (l1 : List KV) : Bs := uvarint n ++ (l1.map enc).flatten
theorem outB_dump (l : List KV) : outB l.length l = dumpB uvarint l := rfl
theorem outB_snoc (n : Nat) (l1 : List KV) (p : KV) : outB n (l1 ++ [p]) = outB n l1 ++ tx p.1 ++ tx p.2 := by simp [outB, enc]
def rest (k : Bs) (ab : Bool) (l : List KV) : List KV := if ab then hi k l else frm k l
theorem nxt_rest (k : Bs) (ab : Bool) (l : List KV) : nxt k ab l = (rest k ab l).head? := by cases ab <;> rfl
theorem rest_next {l l1 l2 : List KV} {k v : Bs} (hs : Srt l) (h : l = l1 ++ (k, v) :: l2) : rest k true l = l2 := by
  subst h
  obtain ⟨_, h2, h3⟩ := Srt.app.1 hs
  have h4 := (List.pairwise_cons.1 h2).1
  change hi k (l1 ++ (k, v) :: l2) = l2
  rw [hi_app, hi_none fun p hp => ltB_asymm (h3 p hp (k, v) List.mem_cons_self)]
  change [] ++ hi k ([(k, v)] ++ l2) = l2
  rw [hi_app, hi_all h4, hi_none (by simp [ltB_irr])]
  rfl
theorem outB_le (l l1 l2 : List KV) (h : l = l1 ++ l2) : (outB l.length l1).length ≤ (dumpB uvarint l).length := by
  rw [← outB_dump]
  conv => rhs; arg 1; arg 2; rw [h]
  simp [outB]
theorem tx_pos (b : Bs) : 1 ≤ (tx b).length := by
  have := uvarint_pos b.length
  simp [tx, textB]
  omega
theorem blks_of {P : Nat → Prop} {ao : Option Addr} (h : ∀ ad, ao = some ad → P ad.block) : ∀ x ∈ blks ao, P x := by
  cases ao with
  | none => simp
  | some ad =>
    intro x hx
    simp at hx
    subst hx
    exact h ad rfl
theorem ix0 (W : World) (a b : Option Addr) (n c m d : Nat) : (Instr.index 72 (.agg #[.slice a n c, .slice b m d]) (.int .i64 0)).run Tryd.prog W = .ok (.slice a n c) W := by kernel_rfl
theorem ix1 (W : World) (a b : Option Addr) (n c m d : Nat) : (Instr.index 72 (.agg #[.slice a n c, .slice b m d]) (.int .i64 1)).run Tryd.prog W = .ok (.slice b m d) W := by kernel_rfl
def lenOf : Value → Nat
  | .slice _ n _ => n
  | _ => 0

set_option maxRecDepth 100000 in
set_option maxHeartbeats 8000000 in
theorem tdump {w : World} {F : Nat → Prop} {t : Nat} {l : List KV} (h : TreeAt w F t l) (hD : (dumpB uvarint l).length ≤ 1000000000) :
    Calls Tryd.prog 16 #[.pointer (some ⟨t, 0, none⟩)] w fun e w' => ∃ ao c, e = .returned (.slice ao (dumpB uvarint l).length c) ∧ Own w' w.heap.size ao c (dumpB uvarint l) ∧ Keeps [] w w' := by
  obtain ⟨i, z, hi, hz, hsz, hby, hzc⟩ := infoB
  have hsr := h.srt
  have htl := h.lt
  have hll : l.length ≤ 1000000000 := by
    refine Nat.le_trans ?_ hD
    rw [← outB_dump]
    simp only [outB, List.length_append]
    have : ∀ m : List KV, m.length ≤ ((m.map enc).flatten).length := fun m => by
      induction m with
      | nil => simp
      | cons p m ih =>
        have : 1 ≤ (enc p).length := by
          have := uvarint_pos p.1.length
          simp [enc, tx, textB]
          omega
        simp only [List.map_cons, List.flatten_cons, List.length_append, List.length_cons]
        omega
    have := this l
    omega
  have hT0 : TreeAt w (fun x => F x ∧ x < w.heap.size) t l := h.mono (fun x hx hlt => ⟨hx, hlt⟩) (fun hh => h.out hh.1)
  obtain ⟨⟨d, root, hB, hN⟩, hFt⟩ := h
  have c1 : w.cell? ⟨t, 1, none⟩ = some (.int .i64 (l.length : Nat)) := hB.cell 1
  have q1 : IntKind.u64.wrap (l.length : Int) = (l.length : Int) := IntWalk.u64_in _ (by omega)
  go_enter Tryd.func16, Tryd.ntmps16
  go_wp2_with fail
  refine (putUint l.length w (by omega)).mono ?_
  rintro e w1 ⟨ao, c, rfl, hO, hk1⟩
  clear c1
  go_wp2_with fail
  refine (tseek (t := t) (k := []) (Sl.none w1 1) (by simp)).mono ?_
  rintro e w2 ⟨cb, rfl, hcb, hC, hk2⟩
  obtain ⟨F2, hF2⟩ : ∃ F2, F2 = (fun x => F x ∧ x < w.heap.size) := ⟨_, rfl⟩
  rw [← hF2] at hT0
  have hF2w : ∀ x, F2 x → x < w.heap.size := fun x h => by rw [hF2] at h; exact h.2
  have hC2 : CurAt w2 F2 cb t [] false := by
    obtain ⟨a, kc, g1, g2, g3, g4⟩ := hC
    exact ⟨a, kc, g1, g2, Fr.nil _ _, g4⟩
  have hk02 := hk1.trans hk2
  have hs1 := hk1.size
  have hT2 := hT0.keep0 hk02
  have hO2 := hO.keep0 hk2
  have hcbo : cb ∉ blks ao := fun hm => by have := (hO.lt cb hm).2; omega
  have HS := Lib.hid (And.intro hT2 (And.intro hO2 (And.intro hC2 hk02)))
  have HF2 := Lib.hid hF2w
  have hcbw : w.heap.size ≤ cb := by omega
  clear hC hC2 hO hO2 hT0 hT2 hF2 hk1 hk2 hcb hB hN hFt hF2w
  go_wp2_with fail
  go_loopw [3] (fun s wr => ∃ (l1 l2 : List KV) (k : Bs) (ab : Bool) (ao : Option Addr) (c : Nat), s = .slice ao (outB l.length l1).length c ∧ l = l1 ++ l2 ∧ rest k ab l = l2 ∧ Own wr w.heap.size ao c (outB l.length l1) ∧ cb ∉ blks ao ∧ TreeAt wr F2 t l ∧ CurAt wr F2 cb t k ab ∧ Keeps [] w wr) (fun s _ => (dumpB uvarint l).length - lenOf s)
  case atStart => exact ⟨[], l, [], false, ao, c, by simp [outB], rfl, frm_all fun p _ => nil_leB p.1, by simpa [outB] using HS.out.2.1, hcbo, HS.out.1, HS.out.2.2.1, HS.out.2.2.2⟩
  case round =>
    clear hcbo HS
    obtain ⟨l1, l2, k, ab, ao, c, rfl, hl, hr, hO, hcbo, hT, hC, hkr⟩ := hrel
    have HL := Lib.hid hl
    have HRE := Lib.hid hr
    have hle := outB_le l l1 l2 hl
    have HOut := Lib.hid hcbo
    obtain ⟨out, hout⟩ : ∃ out, out = outB l.length l1 := ⟨_, rfl⟩
    rw [← hout] at hO hle
    rw [← hout]
    have HOU := Lib.hid hout
    clear hl hr hcbo hout
    go_wp2_with fail
    refine (cnext hT hC (fun h => by have := HF2.out _ h; omega)).mono ?_
    rintro e w3 hA
    rcases hA with ⟨hno, rfl, hk3⟩ | ⟨k', v', hyes, a1, c1, a2, c2, rfl, hr1, hf1, hr2, hf2, hC3, hk3, hk1l, hv1l⟩
    · have HNO := Lib.hid hno
      clear hno
      go_wp2_with fail
      go_ret
      have hl2 : l2 = [] := by
        have := HNO.out
        rw [nxt_rest, HRE.out] at this
        simpa using this
      have e : out = dumpB uvarint l := by
        rw [HOU.out, ← outB_dump]
        have := HL.out
        rw [hl2, List.append_nil] at this
        rw [← this]
      rw [← e]
      exact ⟨ao, c, rfl, hO.keep0 hk3, hkr.trans hk3⟩
    · obtain ⟨l3, hl3⟩ : ∃ l3, l2 = (k', v') :: l3 := by
        have := hyes
        rw [nxt_rest, HRE.out] at this
        cases l2 with
        | nil => simp at this
        | cons p l3 => simp at this; exact ⟨l3, by rw [this]⟩
      have HL3 := Lib.hid hl3
      clear hyes hl3
      have hs3 := hk3.size
      have hO3 := hO.keep hk3 (fun x hx hm => by simp at hm; subst hm; exact HOut.out hx)
      have hT3 := hT.keep hk3 (fun x hx => by
        simp at hx
        subst hx
        exact ⟨fun h => by have := HF2.out _ h; omega, fun h => by subst h; omega⟩)
      have hk03 := hkr.step hk3 (fun x hx => by simp at hx; subst hx; exact .inr hcbw)
      have holt := hO.lt
      have hcb3 := hC3.lt
      have HP := Lib.hid (And.intro hO3 (And.intro hT3 (And.intro hC3 (And.intro hr1 (And.intro hr2 hk03)))))
      have hb1 : ∀ ad, a1 = some ad → bys k' ≠ [] → ad.block < w3.heap.size := fun ad e hx => hr1.lt e hx
      have hb2 : ∀ ad, a2 = some ad → bys v' ≠ [] → ad.block < w3.heap.size := fun ad e hx => hr2.lt e hx
      obtain ⟨s0, hs0⟩ : ∃ s0, s0 = wr.heap.size := ⟨_, rfl⟩
      obtain ⟨s3, hs3e⟩ : ∃ s3, s3 = w3.heap.size := ⟨_, rfl⟩
      rw [← hs0] at hf1 hf2 holt hs3
      rw [← hs3e] at hb1 hb2 hs3 hcb3
      have HS3 := Lib.hid (And.intro hs3 (Nat.le_of_eq hs3e))
      have HFA := Lib.hid (And.intro hf1 (And.intro hf2 (And.intro hb1 hb2)))
      have HOL := Lib.hid holt
      have htot : (out ++ tx k' ++ tx v').length ≤ (dumpB uvarint l).length := by
        have := outB_le l (l1 ++ [(k', v')]) l3 (by rw [HL.out, HL3.out]; simp)
        rwa [outB_snoc, ← HOU.out] at this
      have HTOT := Lib.hid (And.intro htot hD)
      have hle : out.length ≤ 1000000000 := by simp at htot; omega
      clear hO hO3 hT hT3 hC hC3 hr1 hr2 hkr hk03 hf1 hf2 hk3 holt hb1 hb2 hs0 hs3e htot
      go_wp2_with fail
      go_loopw [3, 30] (fun s v wr => ∃ (j : Nat) (ao : Option Addr) (c : Nat) (o : Bs), s = .slice ao o.length c ∧ v = .int .i64 (j : Int) ∧ ((j = 0 ∧ o = out) ∨ (j = 1 ∧ o = out ++ tx k') ∨ (j = 2 ∧ o = out ++ tx k' ++ tx v')) ∧ Own wr w.heap.size ao c o ∧ (∀ x ∈ blks ao, w.heap.size ≤ x ∧ x ≠ cb ∧ (x < s0 ∨ s3 ≤ x)) ∧ TreeAt wr F2 t l ∧ CurAt wr F2 cb t k' true ∧ Rb wr a1 c1 k' ∧ Rb wr a2 c2 v' ∧ Keeps [] w wr ∧ s3 ≤ wr.heap.size) (fun _ v _ => 2 - (intOf v).toNat)
      case atStart =>
        obtain ⟨g1, g2, g3, g4, g5, g6⟩ := HP.out
        exact ⟨0, ao, c, out, rfl, rfl, .inl ⟨rfl, rfl⟩, g1, fun x hx => ⟨(HOL.out x hx).1, fun h => by subst h; exact HOut.out hx, .inl (HOL.out x hx).2⟩, g2, g3, g4, g5, g6, HS3.out.2⟩
      case round =>
        clear HP
        obtain ⟨j, ao, c, o, rfl, rfl, hj, hO, hok, hT, hC, hr1, hr2, hkw, hz3⟩ := hrel
        obtain ⟨hf1, hf2, hb1, hb2⟩ := HFA.out
        rcases hj with ⟨rfl, ho⟩ | ⟨rfl, ho⟩ | ⟨rfl, ho⟩
        · have hol : o.length ≤ 1000000000 := by rw [ho]; exact hle
          have HO := Lib.hid ho
          clear ho
          have n1 : ((0 : Nat) : Int) < 2 := by decide
          have q2 : IntKind.u64.wrap (k'.length : Int) = (k'.length : Int) := IntWalk.u64_in _ (by omega)
          have ix := ix0 wr a1 a2 k'.length c1 v'.length c2
          go_wp2_with fail
          refine (putUint k'.length wr (by omega)).mono ?_
          rintro e w4 ⟨ao4, c4, rfl, hO4, hk4⟩
          have hd : ∀ ad, a1 = some ad → bys k' ≠ [] → ad.block ∉ blks ao := fun ad e hx hm => by
            have := hf1 ad e hx
            have := (hok _ hm).2.2
            have := hb1 ad e hx
            omega
          have hul := uvarint_length64 (x := k'.length) (by omega)
          have hOa := hO.keep0 hk4
          have hRa := hr1.keep0 hk4
          have hs4 := hk4.size
          have hws := hkw.size
          go_wp2_with (first
            | (at_builtin; refine wpList_append_by _ rfl _ _ 30 30 rfl (w.heap.size) 5 i z 1 1 Tryd.underlying30 hi hz hsz hby hzc (ao) _ (c) _ rfl hOa _ rfl (uvarint k'.length).length _ (hO4.rb.src Tryd.underlying30) (by unfold maxLen; omega) (by omega) (by omega) ?_; intro ao5 c5 w5 hO5 hk5 hb5)
            | (at_builtin; refine wpList_append_by _ rfl _ _ 30 30 rfl (w.heap.size) 5 i z 1 1 Tryd.underlying30 hi hz hsz hby hzc (ao5) _ (c5) _ rfl hO5 _ rfl k'.length _ ((hRa.keep hk5 hd).src Tryd.underlying30) (by unfold maxLen; omega) (by omega) (by have := hk5.size; omega) ?_; intro ao6 c6 w6 hO6 hk6 hb6))
          have hok5 : ∀ x ∈ blks ao5, w.heap.size ≤ x ∧ x ≠ cb ∧ (x < s0 ∨ s3 ≤ x) := blks_of fun ad e => by
            rcases hb5 ad e with h | h
            · exact hok _ h
            · exact ⟨by omega, by omega, .inr (by omega)⟩
          have hok6 : ∀ x ∈ blks ao6, w.heap.size ≤ x ∧ x ≠ cb ∧ (x < s0 ∨ s3 ≤ x) := blks_of fun ad e => by
            rcases hb6 ad e with h | h
            · exact hok5 _ h
            · have := hk5.size
              exact ⟨by omega, by omega, .inr (by omega)⟩
          have hd5 : ∀ (a9 : Option Addr) (k9 : Bs), Fr (fun x => s0 ≤ x) a9 (bys k9) → (∀ ad, a9 = some ad → bys k9 ≠ [] → ad.block < s3) → ∀ (ao9 : Option Addr), (∀ x ∈ blks ao9, w.heap.size ≤ x ∧ x ≠ cb ∧ (x < s0 ∨ s3 ≤ x)) → ∀ ad, a9 = some ad → bys k9 ≠ [] → ad.block ∉ blks ao9 := fun a9 k9 g1 g2 ao9 g3 ad e hx hm => by
            have := g1 ad e hx
            have := g2 ad e hx
            have := (g3 _ hm).2.2
            omega
          have htk : ∀ (ao9 : Option Addr), (∀ x ∈ blks ao9, w.heap.size ≤ x ∧ x ≠ cb ∧ (x < s0 ∨ s3 ≤ x)) → ∀ x ∈ blks ao9, ¬ F2 x ∧ x ≠ t := fun ao9 g x hx => by
            have := (g x hx).1
            exact ⟨fun h => by have := HF2.out _ h; omega, by omega⟩
          have hO7 : Own w6 w.heap.size ao6 c6 (o ++ tx k') := Own.of hO6 (by simp [tx, textB, bys_append])
          have hL7 : (o ++ tx k').length = o.length + (uvarint k'.length).length + k'.length := by simp [tx, textB]; omega
          rw [← hL7]
          go_roundw
          case rel =>
            refine ⟨0 + 1, ao6, c6, o ++ tx k', by simp, by simp, .inr (.inl ⟨rfl, by rw [HO.out]⟩), hO7, hok6, ((hT.keep0 hk4).keep hk5 (htk ao hok)).keep hk6 (htk ao5 hok5), ((hC.keep0 hk4).keep hk5 (fun h => (hok _ h).2.1 rfl) (fun x hx => (htk ao hok x hx).1)).keep hk6 (fun h => (hok5 _ h).2.1 rfl) (fun x hx => (htk ao5 hok5 x hx).1), ((hr1.keep0 hk4).keep hk5 (hd5 a1 k' hf1 hb1 ao hok)).keep hk6 (hd5 a1 k' hf1 hb1 ao5 hok5), ((hr2.keep0 hk4).keep hk5 (hd5 a2 v' hf2 hb2 ao hok)).keep hk6 (hd5 a2 v' hf2 hb2 ao5 hok5), ?_, ?_⟩
            · exact ((hkw.trans hk4).step hk5 (fun x hx => .inr (hok x hx).1)).step hk6 (fun x hx => .inr (hok5 x hx).1)
            · have := hk5.size
              have := hk6.size
              omega
          case measure => simp [intOf]
        · have hol : o.length ≤ 1000000000 := by
            have g1 := HTOT.out.1; have g2 := HTOT.out.2
            rw [ho]
            simp only [List.length_append] at g1 ⊢
            omega
          have HO := Lib.hid ho
          clear ho
          have n1 : ((1 : Nat) : Int) < 2 := by decide
          have q2 : IntKind.u64.wrap (v'.length : Int) = (v'.length : Int) := IntWalk.u64_in _ (by omega)
          have ix := ix1 wr a1 a2 k'.length c1 v'.length c2
          go_wp2_with fail
          refine (putUint v'.length wr (by omega)).mono ?_
          rintro e w4 ⟨ao4, c4, rfl, hO4, hk4⟩
          have hd : ∀ ad, a2 = some ad → bys v' ≠ [] → ad.block ∉ blks ao := fun ad e hx hm => by
            have := hf2 ad e hx
            have := (hok _ hm).2.2
            have := hb2 ad e hx
            omega
          have hul := uvarint_length64 (x := v'.length) (by omega)
          have hOa := hO.keep0 hk4
          have hRa := hr2.keep0 hk4
          have hs4 := hk4.size
          have hws := hkw.size
          go_wp2_with (first
            | (at_builtin; refine wpList_append_by _ rfl _ _ 30 30 rfl (w.heap.size) 5 i z 1 1 Tryd.underlying30 hi hz hsz hby hzc (ao) _ (c) _ rfl hOa _ rfl (uvarint v'.length).length _ (hO4.rb.src Tryd.underlying30) (by unfold maxLen; omega) (by omega) (by omega) ?_; intro ao5 c5 w5 hO5 hk5 hb5)
            | (at_builtin; refine wpList_append_by _ rfl _ _ 30 30 rfl (w.heap.size) 5 i z 1 1 Tryd.underlying30 hi hz hsz hby hzc (ao5) _ (c5) _ rfl hO5 _ rfl v'.length _ ((hRa.keep hk5 hd).src Tryd.underlying30) (by unfold maxLen; omega) (by omega) (by have := hk5.size; omega) ?_; intro ao6 c6 w6 hO6 hk6 hb6))
          have hok5 : ∀ x ∈ blks ao5, w.heap.size ≤ x ∧ x ≠ cb ∧ (x < s0 ∨ s3 ≤ x) := blks_of fun ad e => by
            rcases hb5 ad e with h | h
            · exact hok _ h
            · exact ⟨by omega, by omega, .inr (by omega)⟩
          have hok6 : ∀ x ∈ blks ao6, w.heap.size ≤ x ∧ x ≠ cb ∧ (x < s0 ∨ s3 ≤ x) := blks_of fun ad e => by
            rcases hb6 ad e with h | h
            · exact hok5 _ h
            · have := hk5.size
              exact ⟨by omega, by omega, .inr (by omega)⟩
          have hd5 : ∀ (a9 : Option Addr) (k9 : Bs), Fr (fun x => s0 ≤ x) a9 (bys k9) → (∀ ad, a9 = some ad → bys k9 ≠ [] → ad.block < s3) → ∀ (ao9 : Option Addr), (∀ x ∈ blks ao9, w.heap.size ≤ x ∧ x ≠ cb ∧ (x < s0 ∨ s3 ≤ x)) → ∀ ad, a9 = some ad → bys k9 ≠ [] → ad.block ∉ blks ao9 := fun a9 k9 g1 g2 ao9 g3 ad e hx hm => by
            have := g1 ad e hx
            have := g2 ad e hx
            have := (g3 _ hm).2.2
            omega
          have htk : ∀ (ao9 : Option Addr), (∀ x ∈ blks ao9, w.heap.size ≤ x ∧ x ≠ cb ∧ (x < s0 ∨ s3 ≤ x)) → ∀ x ∈ blks ao9, ¬ F2 x ∧ x ≠ t := fun ao9 g x hx => by
            have := (g x hx).1
            exact ⟨fun h => by have := HF2.out _ h; omega, by omega⟩
          have hO7 : Own w6 w.heap.size ao6 c6 (o ++ tx v') := Own.of hO6 (by simp [tx, textB, bys_append])
          have hL7 : (o ++ tx v').length = o.length + (uvarint v'.length).length + v'.length := by simp [tx, textB]; omega
          rw [← hL7]
          go_roundw
          case rel =>
            refine ⟨1 + 1, ao6, c6, o ++ tx v', by simp, by simp, .inr (.inr ⟨rfl, by rw [HO.out]⟩), hO7, hok6, ((hT.keep0 hk4).keep hk5 (htk ao hok)).keep hk6 (htk ao5 hok5), ((hC.keep0 hk4).keep hk5 (fun h => (hok _ h).2.1 rfl) (fun x hx => (htk ao hok x hx).1)).keep hk6 (fun h => (hok5 _ h).2.1 rfl) (fun x hx => (htk ao5 hok5 x hx).1), ((hr1.keep0 hk4).keep hk5 (hd5 a1 k' hf1 hb1 ao hok)).keep hk6 (hd5 a1 k' hf1 hb1 ao5 hok5), ((hr2.keep0 hk4).keep hk5 (hd5 a2 v' hf2 hb2 ao hok)).keep hk6 (hd5 a2 v' hf2 hb2 ao5 hok5), ?_, ?_⟩
            · exact ((hkw.trans hk4).step hk5 (fun x hx => .inr (hok x hx).1)).step hk6 (fun x hx => .inr (hok5 x hx).1)
            · have := hk5.size
              have := hk6.size
              omega
          case measure => simp [intOf]
        · have HO := Lib.hid ho
          clear ho
          go_wp2_with fail
          go_roundw
          case rel =>
            refine ⟨l1 ++ [(k', v')], l3, k', true, ao, c, ?_, by rw [HL.out, HL3.out]; simp, rest_next hsr (by rw [HL.out, HL3.out]), ?_, fun h => (hok _ h).2.1 rfl, hT, hC, hkw⟩
            · rw [outB_snoc, ← HOU.out, ← HO.out]
            · rw [outB_snoc, ← HOU.out, ← HO.out]
              exact hO
          case measure =>
            have g1 := HTOT.out.1; have g2 := HTOT.out.2
            have e := HO.out
            simp only [lenOf]
            have h3 : o.length = out.length + (tx k').length + (tx v').length := by rw [e]; simp; omega
            have h4 := tx_pos k'
            simp only [List.length_append] at g1
            omega
end Go.Proofs.YtknnhnpcgefchaaDoor
/- The law's helpers: number, known; Clone of a tree. -/

namespace Go.Proofs.YtknnhnpcgefchaaDoor
open Go.RowKit Go.Lib

theorem cell_u8 (n : Nat) : (.int .u8 ((n : Int) % 256) : Value) = .int .u8 ((UInt8.ofNat n).toNat : Nat) := by
  rw [UInt8.toNat_ofNat']
  simp
theorem rb_one {w : World} {b : Nat} (n : Nat) (hn : n < 256) (h : Blk w b 5 #[.int .u8 (n : Int)]) : Rb w (some ⟨b, 0, none⟩) 1 [UInt8.ofNat n] := by
  refine rb1 (h.eq ?_)
  rw [UInt8.toNat_ofNat', Nat.mod_eq_of_lt (by omega)]
theorem rb_mod {w : World} {b : Nat} (n : Nat) (h : Blk w b 5 #[.int .u8 ((n : Int) % 256)]) : Rb w (some ⟨b, 0, none⟩) 1 [UInt8.ofNat n] :=
  rb1 (h.eq (by rw [cell_u8]))

theorem rb_mk (w : World) (l : List UInt8) (m : Nat × Nat) (g : Nat) (hg : g = w.heap.size) (hl : l.length ≤ maxLen) : Rb (w.alloc (.cells (bys l).toArray 5 m)) (some ⟨g, 0, none⟩) l.length l := by
  subst hg
  refine ⟨by simp, Nat.le_refl _, hl, fun e => by simp at e, fun _ ad e => by cases e; rfl, ?_, bys_one l⟩
  intro ad e j u hj
  cases e
  have := cell_of_row (w.alloc (.cells (bys l).toArray 5 m)) w.heap.size (0 + j) (bys l).toArray 5 m (heap_alloc_new w _)
  rw [this, Nat.zero_add]
  simpa using hj
theorem conv_at (w : World) (C : Array Value) (n c g : Nat) (hg : g = w.heap.size) :
    (convert 30 30 (.slice (some ⟨g, 0, none⟩) n c)).run Tryd.prog (w.alloc (.cells C 5)) = .ok (.slice (some ⟨g, 0, none⟩) n c) (w.alloc (.cells C 5 (C.size, C.size + 1))) := by
  subst hg
  exact Lib.run_convert_bytes_const w 30 5 C n c Tryd.underlying30 Tryd.underlying5

theorem known_any (w : World) : Calls Tryd.prog 4 #[] w fun e w' => e = .returned (.bool true) ∧ Keeps [] w w' := by
  go_enter Tryd.func4, Tryd.ntmps4
  go_wp2_with fail
  refine (tnew w).mono ?_
  rintro e w1 ⟨t, rfl, hst, hT, hk1⟩
  have d1 := conv_at w1 #[.int .u8 98] 1 1 w1.heap.size rfl
  have d2 := conv_at (w1.alloc (.cells #[.int .u8 98] 5 (1, 2))) #[.int .u8 49] 1 1 (w1.heap.size + 1) (by simp)
  go_wp2_with fail
  clear d1 d2
  have k1 := ((Keeps.refl [] w1).alloc (.cells #[.int .u8 98] 5 (1, 2))).alloc (.cells #[.int .u8 49] 5 (1, 2))
  refine (tput (k := [98]) (v := [49]) (hT.keep0 k1) ((rb_mk w1 [98] (1, 2) _ rfl (by decide)).keep0 ((Keeps.refl [] _).alloc (.cells #[.int .u8 49] 5 (1, 2)))) (rb_mk (w1.alloc (.cells #[.int .u8 98] 5 (1, 2))) [49] (1, 2) (w1.heap.size + 1) (by simp) (by decide)) (by simp) (by simp) (by simp)).mono ?_
  rintro e w2 ⟨he, hT2, hk2⟩
  have b1 : (!has [98] ([] : List KV)) = true := rfl
  rw [b1] at he
  subst he
  have hk02 := (hk1.trans k1).step hk2 (fun x hx => .inr (by simp at hx; omega))
  clear hk2 k1 hT
  have d1 := conv_at w2 #[.int .u8 97] 1 1 w2.heap.size rfl
  go_wp2_with fail
  clear d1
  have k2 := (Keeps.refl [] w2).alloc (.cells #[.int .u8 97] 5 (1, 2))
  refine (tput (k := [97]) (v := []) (hT2.keep0 k2) (rb_mk w2 [97] (1, 2) _ rfl (by decide)) (Sl.none _ _) (by simp) (by simp) (by decide)).mono ?_
  rintro e w3 ⟨he, hT3, hk3⟩
  have b2 : (!has [97] (ins [98] [49] ([] : List KV))) = true := rfl
  rw [b2] at he
  subst he
  have hk03 := (hk02.trans k2).step hk3 (fun x hx => .inr (by simp at hx; omega))
  clear hk3 k2 hT2
  have d1 := conv_at w3 #[.int .u8 97] 1 1 w3.heap.size rfl
  have d2 := conv_at (w3.alloc (.cells #[.int .u8 97] 5 (1, 2))) #[.int .u8 50] 1 1 (w3.heap.size + 1) (by simp)
  go_wp2_with fail
  clear d1 d2
  have k3 := ((Keeps.refl [] w3).alloc (.cells #[.int .u8 97] 5 (1, 2))).alloc (.cells #[.int .u8 50] 5 (1, 2))
  refine (tput (k := [97]) (v := [50]) (hT3.keep0 k3) ((rb_mk w3 [97] (1, 2) _ rfl (by decide)).keep0 ((Keeps.refl [] _).alloc (.cells #[.int .u8 50] 5 (1, 2)))) (rb_mk (w3.alloc (.cells #[.int .u8 97] 5 (1, 2))) [50] (1, 2) (w3.heap.size + 1) (by simp) (by decide)) (by simp) (by simp) (by decide)).mono ?_
  rintro e w4 ⟨he, hT4, hk4⟩
  have b3 : (!has [97] (ins [97] [] (ins [98] [49] ([] : List KV)))) = false := rfl
  rw [b3] at he
  subst he
  have hk04 := (hk03.trans k3).step hk4 (fun x hx => .inr (by simp at hx; omega))
  clear hk4 k3 hT3
  go_wp2_with fail
  refine (tseek (t := t) (k := []) (Sl.none w4 1) (by simp)).mono ?_
  rintro e w5 ⟨cb, rfl, hcb, hC, hk5⟩
  have htl := hT4.lt
  have hT5 := (hT4.mono (F' := fun x => x ≠ t ∧ x < w4.heap.size) (fun x hx hlt => ⟨fun h => by subst h; exact hT4.out hx, hlt⟩) (fun h => h.1 rfl)).keep0 hk5
  go_wp2_with fail
  refine (cnext hT5 hC (fun h => by have := h.2; omega)).mono ?_
  rintro e w6 hA
  have b4 : nxt [] false (ins [97] [50] (ins [97] [] (ins [98] [49] ([] : List KV)))) = some ([97], [50]) := rfl
  rcases hA with ⟨hno, _, _⟩ | ⟨k', v', hyes, a1, c1, a2, c2, rfl, hr1, _, hr2, _, hC6, hk6, _, _⟩
  · rw [b4] at hno
    cases hno
  · rw [b4] at hyes
    simp only [Option.some.injEq, Prod.mk.injEq] at hyes
    obtain ⟨rfl, rfl⟩ := hyes
    have hk06 := (hk04.trans hk5).step hk6 (fun x hx => .inr (by simp at hx; have := hk04.size; omega))
    have hT6 := hT5.keep hk6 (fun x hx => by simp at hx; subst hx; exact ⟨fun h => by have := h.2; omega, fun h => by omega⟩)
    have r1 : (convert 30 9 (.slice a1 1 c1)).run Tryd.prog w6 = .ok (.string ⟨#[97]⟩) w6 := run_text hr1 30 9 Tryd.underlying30 Tryd.underlying9
    have r2 : (convert 30 9 (.slice a2 1 c2)).run Tryd.prog w6 = .ok (.string ⟨#[50]⟩) w6 := run_text hr2 30 9 Tryd.underlying30 Tryd.underlying9
    have hL := tlen hT6
    go_wp2_with fail
    refine hL.mono ?_
    rintro e w7 ⟨rfl, hw⟩
    obtain rfl := hw.symm
    have e5 : (ins [97] [50] (ins [97] [] (ins [98] [49] ([] : List KV)))).length = 2 := rfl
    rw [e5]
    go_wp2_with fail
    go_ret
    exact ⟨rfl, hk06⟩
end Go.Proofs.YtknnhnpcgefchaaDoor
/- Clone of a tree; Spoil. -/

namespace Go.Proofs.YtknnhnpcgefchaaDoor
open Go.RowKit Go.Lib

theorem tclone {w : World} {F : Nat → Prop} {t : Nat} {l : List KV} (h : TreeAt w F t l) :
    Calls Tryd.prog 8 #[.pointer (some ⟨t, 0, none⟩)] w fun e w' => ∃ t2, e = .returned (.pointer (some ⟨t2, 0, none⟩)) ∧ w.heap.size ≤ t2 ∧ TreeAt w' (fun x => F x ∧ x < w.heap.size) t2 l ∧ Keeps [] w w' := by
  obtain ⟨⟨d, root, hB, hN⟩, hFt⟩ := h
  have hcc := hB.cell
  have hlt := hB.lt
  go_enter Tryd.func8, Tryd.ntmps8
  go_wp2_with fail
  go_ret
  have hk := (Keeps.refl [] w).alloc (.cells #[.pointer (some ⟨root, 0, none⟩), .int .i64 (l.length : Nat)] 57)
  exact ⟨w.heap.size, rfl, Nat.le_refl _, ⟨⟨d, root, Blk.fresh w 57 _, (hN.mono (fun x hx hl => ⟨hx, hl⟩)).keep0 hk⟩, fun h => by omega⟩, hk⟩

set_option maxRecDepth 100000 in
theorem spoil_any {w : World} {N : Nat} (ao : Option Addr) (c : Nat) (l : Bs) (h : Own w N ao c l) (hl : l.length ≤ 1000000) :
    Calls Tryd.prog 11 #[.slice ao l.length c] w fun e w' => e = .returned (.tuple #[]) ∧ Keeps (blks ao) w w' := by
  by_cases h0 : l.length = 0
  · rw [h0]
    go_enter Tryd.func11, Tryd.ntmps11
    go_wp2_with fail
    go_loopw [2] (fun v wr => v = .int .i64 0 ∧ wr = w) (fun _ _ => 0)
    case atStart => exact ⟨rfl, rfl⟩
    case round =>
      obtain ⟨rfl, rfl⟩ := hrel
      go_wp2_with fail
      go_end0
      exact ⟨rfl, Keeps.refl _ _⟩
  · obtain ⟨g, cur, rfl, hNg, hB, hcs, hnc, hcm, htk⟩ := ownsRow_blk h (by omega) (by decide)
    go_enter Tryd.func11, Tryd.ntmps11
    go_wp2_with fail
    go_loopw [2] (fun v wr => ∃ (i : Nat) (cur' : Array Value), v = .int .i64 (i : Int) ∧ i ≤ l.length ∧ Blk wr g 5 cur' ∧ cur'.size = cur.size ∧ Keeps [g] w wr) (fun v _ => l.length - (intOf v).toNat)
    case atStart => exact ⟨0, cur, rfl, Nat.zero_le _, hB, rfl, Keeps.refl _ _⟩
    case round =>
      obtain ⟨i, cur', rfl, hi, hB', hcs', hkr⟩ := hrel
      rcases (by omega : i = l.length ∨ i < l.length) with hie | hil
      · have n1 : ¬ ((i : Int) < (l.length : Int)) := by omega
        go_wp2_with fail
        go_end0
        exact ⟨rfl, hkr.mono (fun x hx => by simpa using hx)⟩
      · have n1 : (i : Int) < (l.length : Int) := by omega
        have n2 : (0 : Int) ≤ (i : Int) := by omega
        have hfr := hB'.free i
        have hlt := hB'.lt
        obtain ⟨old, hold⟩ : ∃ old, cur'[i]? = some old := ⟨_, Array.getElem?_eq_getElem (by omega)⟩
        have hc0 : wr.cell? ⟨g, i, none⟩ = some old := by rw [hB'.cell]; exact hold
        go_wp2_with fail
        go_roundw
        case rel => exact ⟨i + 1, _, by simp, by omega, hB'.put i (.int .u8 238), by simpa using hcs', hkr.set (p := ⟨g, i, none⟩) (.inl (by simp)) _⟩
        case measure => simp [intOf]; omega
end Go.Proofs.YtknnhnpcgefchaaDoor
/- The law's entries: place. -/

namespace Go.Proofs.YtknnhnpcgefchaaDoor
open Go.RowKit Go.Lib

/-- entries in memory -/
def ents (m : List KV) : List Value := (m.map fun p => [Value.string ⟨p.1.toArray⟩, Value.string ⟨p.2.toArray⟩]).flatten
theorem ents_length (m : List KV) : (ents m).length = m.length * 2 := by
  induction m with
  | nil => rfl
  | cons p m ih => simp only [ents, List.map_cons, List.flatten_cons, List.length_append, List.length_cons] at ih ⊢; rw [ih]; simp; omega
theorem ents_app (a b : List KV) : ents (a ++ b) = ents a ++ ents b := by simp [ents]
theorem ents_one (m : List KV) : ∀ u ∈ ents m, u.oneCell' = true := by
  intro u hu
  unfold ents at hu
  rw [List.mem_flatten] at hu
  obtain ⟨l, hl, hu⟩ := hu
  obtain ⟨p, _, rfl⟩ := List.mem_map.1 hl
  simp at hu
  rcases hu with rfl | rfl <;> rfl
theorem ents_take (m : List KV) (k : Nat) : (ents m).take (k * 2) = ents (m.take k) := by
  induction m generalizing k with
  | nil => simp [ents]
  | cons p m ih =>
    cases k with
    | zero => simp [ents]
    | succ k =>
      have e : ents (p :: m) = [Value.string ⟨p.1.toArray⟩, Value.string ⟨p.2.toArray⟩] ++ ents m := rfl
      rw [e, show (k + 1) * 2 = [Value.string ⟨p.1.toArray⟩, Value.string ⟨p.2.toArray⟩].length + k * 2 by simp; omega, List.take_length_add_append, ih]
      rfl
theorem ents_drop (m : List KV) (k : Nat) : (ents m).drop (k * 2) = ents (m.drop k) := by
  induction m generalizing k with
  | nil => simp [ents]
  | cons p m ih =>
    cases k with
    | zero => simp
    | succ k =>
      have e : ents (p :: m) = [Value.string ⟨p.1.toArray⟩, Value.string ⟨p.2.toArray⟩] ++ ents m := rfl
      rw [e, show (k + 1) * 2 = [Value.string ⟨p.1.toArray⟩, Value.string ⟨p.2.toArray⟩].length + k * 2 by simp; omega, List.drop_length_add_append, ih]
      rfl
theorem ents_at {m : List KV} {i : Nat} {p : KV} (h : m[i]? = some p) : (ents m)[i * 2]? = some (.string ⟨p.1.toArray⟩) ∧ (ents m)[i * 2 + 1]? = some (.string ⟨p.2.toArray⟩) := by
  obtain ⟨hl, rfl⟩ := List.getElem?_eq_some_iff.1 h
  have e : (ents m).drop (i * 2) = Value.string ⟨m[i].1.toArray⟩ :: Value.string ⟨m[i].2.toArray⟩ :: ents (m.drop (i + 1)) := by
    rw [ents_drop, List.drop_eq_getElem_cons hl]
    rfl
  constructor
  · have := congrArg (fun x => x[0]?) e
    simpa using this
  · have := congrArg (fun x => x[1]?) e
    simpa using this
theorem less_ltB : ∀ a b : Bs, Op.bytesLess a b = ltB a b
  | [], [] => rfl
  | [], _ :: _ => rfl
  | _ :: _, [] => rfl
  | x :: xs, y :: ys => by
    have ih := less_ltB xs ys
    unfold Op.bytesLess
    unfold ltB cmpL
    unfold ltB at ih
    by_cases h1 : x < y
    · simp [h1]
    · by_cases h2 : y < x
      · have hne : ¬ x = y := fun e => by subst e; exact h1 h2
        simp [h1, h2, hne]
      · have he : x = y := by
          apply UInt8.toNat_inj.1
          rw [UInt8.lt_iff_toNat_lt] at h1 h2
          omega
        subst he
        simp [ih]
theorem place_split {m : List KV} {k : Bs} (hs : Srt m) : (∀ i p, i < (lo k m).length → m[i]? = some p → ltB p.1 k = true) ∧ (∀ p, m[(lo k m).length]? = some p → ltB p.1 k = false ∧ has k m = (p.1 == k)) ∧ ((lo k m).length = m.length → has k m = false) ∧ (lo k m).length ≤ m.length := by
  have e := hs.split (k := k)
  refine ⟨fun i p hi hp => ?_, fun p hp => ?_, fun h => ?_, List.length_filter_le _ _⟩
  · rw [e, List.getElem?_append_left hi] at hp
    exact (lo_mem (List.mem_of_getElem? hp)).2
  · generalize hr : (lo k m).length = r at hp
    rw [e, List.getElem?_append_right (by omega), hr, Nat.sub_self] at hp
    have hm := List.mem_of_getElem? hp
    refine ⟨(frm_mem hm).2, ?_⟩
    rcases hs.frm_cases (k := k) with ⟨g1, g2⟩ | ⟨v, g1, g2, _⟩
    · rw [g2] at hp
      have := (hi_mem (List.mem_of_getElem? hp)).2
      rw [g1]
      have hne := (ltB_ne this).symm
      simp [hne]
    · rw [g2] at hp
      simp at hp
      subst hp
      rw [g1]
      simp
  · have hf : frm k m = [] := by
      have := congrArg List.length e
      rw [List.length_append] at this
      exact List.eq_nil_of_length_eq_zero (by omega)
    rcases hs.frm_cases (k := k) with ⟨g1, _⟩ | ⟨v, _, g2, _⟩
    · exact g1
    · rw [hf] at g2; cases g2

set_option maxRecDepth 100000 in
set_option maxHeartbeats 4000000 in
theorem place_any {w : World} {ao : Option Addr} {c : Nat} {m : List KV} {k : Bs} (hS : Sl w 2 ao m.length c (ents m)) (hs : Srt m) (hm : m.length ≤ 100000) :
    Calls Tryd.prog 9 #[.slice ao m.length c, .string ⟨k.toArray⟩] w fun e w' => e = .returned (.tuple #[.int .i64 ((lo k m).length : Nat), .bool (has k m)]) ∧ Keeps [] w w' := by
  obtain ⟨h1, h2, h3, h4⟩ := place_split (k := k) hs
  obtain ⟨r, hr⟩ : ∃ r, r = (lo k m).length := ⟨_, rfl⟩
  rw [← hr] at h1 h2 h3 h4 ⊢
  have H1 := Lib.hid h1
  have H2 := Lib.hid h2
  have H3 := Lib.hid h3
  clear h1 h2 h3 hr
  go_enter Tryd.func9, Tryd.ntmps9
  go_wp2_with fail
  go_loopw [6] (fun v wr => ∃ i : Nat, v = .int .i64 (i : Int) ∧ i ≤ r ∧ wr = w) (fun v _ => r - (intOf v).toNat)
  case atStart => exact ⟨0, rfl, Nat.zero_le _, rfl⟩
  case round =>
    obtain ⟨i, rfl, hir, hwr⟩ := hrel
    subst hwr
    rcases (by omega : i < r ∨ (i = r ∧ r < m.length) ∨ (i = r ∧ r = m.length)) with hi | ⟨rfl, hi⟩ | ⟨rfl, hi⟩
    · obtain ⟨p, hp⟩ : ∃ p, m[i]? = some p := ⟨_, List.getElem?_eq_getElem (by omega)⟩
      have hlt := H1.out i p hi hp
      have hcap := hS.cap
      obtain ⟨bb, o, rfl⟩ := hS.at (by omega)
      have c0 : wr.cell? ⟨bb, o + i * 2, none⟩ = some (.string ⟨p.1.toArray⟩) := by
        have := hS.cells rfl _ _ (ents_at hp).1
        rwa [addr_add rfl] at this
      have n1 : (i : Int) < (m.length : Int) := by omega
      have n2 : (0 : Int) ≤ (i : Int) := by omega
      have b1 := less_ltB p.1 k
      rw [hlt] at b1
      clear hlt hp
      go_wp2_with fail
      go_roundw
      case rel => exact ⟨i + 1, by simp, by omega, by first | rfl | trivial⟩
      case measure => simp [intOf]; omega
    · obtain ⟨p, hp⟩ : ∃ p, m[i]? = some p := ⟨_, List.getElem?_eq_getElem (by omega)⟩
      obtain ⟨hlt, hh⟩ := H2.out p hp
      have hcap := hS.cap
      obtain ⟨bb, o, rfl⟩ := hS.at (by omega)
      have c0 : wr.cell? ⟨bb, o + i * 2, none⟩ = some (.string ⟨p.1.toArray⟩) := by
        have := hS.cells rfl _ _ (ents_at hp).1
        rwa [addr_add rfl] at this
      have n1 : (i : Int) < (m.length : Int) := by omega
      have n2 : (0 : Int) ≤ (i : Int) := by omega
      have b1 := less_ltB p.1 k
      rw [hlt] at b1
      have HH := Lib.hid hh
      clear hlt hp hh
      go_wp2_with fail
      go_quiet (fail)
      go_wp2_with fail
      go_ret2
      refine ⟨?_, (Keeps.refl [] _).drewN _⟩
      rw [HH.out]
      rfl
    · have hh := H3.out hi
      subst hi
      have n1 : ¬ ((m.length : Int) < (m.length : Int)) := by omega
      have HH := Lib.hid hh
      clear hh
      go_wp2_with fail
      go_quiet (fail)
      go_wp2_with fail
      go_ret2
      refine ⟨?_, (Keeps.refl [] _).drewN _⟩
      rw [HH.out]
      rfl
end Go.Proofs.YtknnhnpcgefchaaDoor
/- The law's dump. -/

namespace Go.Proofs.YtknnhnpcgefchaaDoor
open Go.RowKit Go.Lib

theorem tx_str (b : Bs) : uvarint (⟨b.toArray⟩ : ByteArray).size ++ (⟨b.toArray⟩ : ByteArray).data.toList = tx b := by
  simp [tx, textB, ByteArray.size]
theorem putTextRb (b : Bs) (w : World) (hb : b.length ≤ 1000000) :
    Calls Tryd.prog 29 #[.string ⟨b.toArray⟩] w fun e w' => ∃ ao c, e = .returned (.slice ao (tx b).length c) ∧ Own w' w.heap.size ao c (tx b) ∧ Keeps [] w w' := by
  have := putTextR ⟨b.toArray⟩ w (by simp [ByteArray.size]; omega)
  rwa [tx_str] at this

set_option maxRecDepth 100000 in
set_option maxHeartbeats 8000000 in
theorem dumpL_any {w : World} {ao : Option Addr} {c : Nat} {m : List KV} (hS : Sl w 2 ao m.length c (ents m)) (hD : (dumpB uvarint m).length ≤ 1000000000) (hm : m.length ≤ 100000) (hls : ∀ p ∈ m, p.1.length ≤ 1000000 ∧ p.2.length ≤ 1000000) :
    Calls Tryd.prog 18 #[.slice ao m.length c] w fun e w' => ∃ a2 c2, e = .returned (.slice a2 (dumpB uvarint m).length c2) ∧ Own w' w.heap.size a2 c2 (dumpB uvarint m) ∧ Keeps [] w w' := by
  obtain ⟨iB, z, hi, hz, hsz, hby, hzc⟩ := infoB
  have q1 : IntKind.u64.wrap (m.length : Int) = (m.length : Int) := IntWalk.u64_in _ (by omega)
  go_enter Tryd.func18, Tryd.ntmps18
  go_wp2_with fail
  refine (putUintR m.length w (by omega)).mono ?_
  rintro e w1 ⟨a1, c1, rfl, hO, hk1⟩
  have HS := Lib.hid (And.intro hO hk1)
  clear hO hk1
  go_wp2_with fail
  go_loopw [3, 4] (fun s v wr => ∃ (i : Nat) (a2 : Option Addr) (c2 : Nat), s = .slice a2 (outB m.length (m.take i)).length c2 ∧ v = .int .i64 (i : Int) ∧ i ≤ m.length ∧ Own wr w.heap.size a2 c2 (outB m.length (m.take i)) ∧ Keeps [] w wr) (fun _ v _ => m.length - (intOf v).toNat)
  case atStart => exact ⟨0, a1, c1, by simp [outB], rfl, Nat.zero_le _, by simpa [outB] using HS.out.1, HS.out.2⟩
  case round =>
    clear HS
    obtain ⟨i, a2, c2, rfl, rfl, him, hO, hkr⟩ := hrel
    rcases (by omega : i = m.length ∨ i < m.length) with hie | hil
    · have n1 : ¬ ((i : Int) < (m.length : Int)) := by omega
      rw [List.take_of_length_le (by omega)] at hO ⊢
      rw [outB_dump] at hO ⊢
      clear hie
      go_wp2_with fail
      go_ret
      exact ⟨a2, c2, rfl, hO, hkr⟩
    · obtain ⟨p, hp⟩ : ∃ p, m[i]? = some p := ⟨_, List.getElem?_eq_getElem hil⟩
      have n1 : (i : Int) < (m.length : Int) := by omega
      have n2 : (0 : Int) ≤ (i : Int) := by omega
      have hcap := hS.cap
      obtain ⟨bb, o, rfl⟩ := hS.at (by omega)
      obtain ⟨k0, v0⟩ := p
      have hbl : bb < w.heap.size := hS.lt rfl (fun h => by have := congrArg List.length h; rw [ents_length, List.length_nil] at this; omega)
      have c0 : w.cell? ⟨bb, o + i * 2, none⟩ = some (.string ⟨k0.toArray⟩) := by
        have := hS.cells rfl _ _ (ents_at hp).1
        rwa [addr_add rfl] at this
      have c1 : w.cell? ⟨bb, o + i * 2 + 1, none⟩ = some (.string ⟨v0.toArray⟩) := by
        have := hS.cells rfl _ _ (ents_at hp).2
        rw [addr_add rfl] at this
        simpa [Nat.add_assoc] using this
      have htot := outB_le m (m.take i ++ [(k0, v0)]) (m.drop (i + 1)) (mid_split hp)
      rw [outB_snoc] at htot
      simp only [List.length_append] at htot
      obtain ⟨out, hout⟩ : ∃ out, out = outB m.length (m.take i) := ⟨_, rfl⟩
      rw [← hout] at hO htot ⊢
      have HOU := Lib.hid hout
      have HP := Lib.hid hp
      have hps := hls (k0, v0) (List.mem_of_getElem? hp)
      simp only at hps c0 c1 htot
      clear hout hp
      go_upto_region 5 with (fail)
      have HR0 : (∀ W : World, Keeps [] w W → ∀ q ∈ [((5 : Nat), fun w0 : World => w0.cell? ⟨bb, o + i * 2, none⟩ = some (.string ⟨k0.toArray⟩)), ((12 : Nat), fun w0 : World => w0.cell? ⟨bb, o + i * 2 + 1, none⟩ = some (.string ⟨v0.toArray⟩))], q.2 W) := fun W hW => rds2 (hW.cellSome c0 (by simp)) (hW.cellSome c1 (by simp))
      have hkd := (Keeps.refl [] wr).drew
      have hk5 := hkr.trans hkd
      have hO5 := hO.keep0 hkd
      have hSw := HR0 _ hk5
      have HR := Lib.hid HR0
      clear HR0 c0 c1
      refine startU [((5 : Nat), fun w0 : World => w0.cell? ⟨bb, o + i * 2, none⟩ = some (.string ⟨k0.toArray⟩)), ((12 : Nat), fun w0 : World => w0.cell? ⟨bb, o + i * 2 + 1, none⟩ = some (.string ⟨v0.toArray⟩))] (by kernel_rfl) ?_
      generalize wr.drew = w5 at *
      refine takeU (i := 0) (v := ?_) rfl (by kernel_rfl) (fun _ _ _ h => h) (Or.inl ⟨by rfl, fun w0 hw0 => ?_⟩) (fun p hp _ => hSw p hp) ?_
      rotate_left
      · simp [Reads] at hw0
        go_simp
        try with_reducible rfl
      try go_simp
      refine takeU (i := 1) (v := ?_) rfl (by kernel_rfl) (fun _ _ _ h => h) (Or.inl ⟨by rfl, fun w0 hw0 => ?_⟩) (fun p hp _ => hSw p hp) ?_
      rotate_left
      · simp [Reads] at hw0
        go_simp
        try with_reducible rfl
      try go_simp
      refine takeU (i := 2) (v := ?_) rfl (by kernel_rfl) (fun _ _ _ h => h) (Or.inl ⟨by rfl, fun w0 hw0 => ?_⟩) (fun p hp _ => hSw p hp) ?_
      rotate_left
      · simp [Reads] at hw0
        go_simp
        try with_reducible rfl
      try go_simp
      refine takeU (i := 3) (v := ?_) rfl (by kernel_rfl) (fun _ _ _ h => h) (Or.inl ⟨by rfl, fun w0 hw0 => ?_⟩) (fun p hp _ => hSw p hp) ?_
      rotate_left
      · simp [Reads] at hw0
        go_simp
        try with_reducible rfl
      try go_simp
      refine takeU (i := 4) (v := ?_) rfl (by kernel_rfl) (fun _ _ _ h => h) (Or.inl ⟨by rfl, fun w0 hw0 => ?_⟩) (fun p hp _ => hSw p hp) ?_
      rotate_left
      · simp [Reads] at hw0
        go_simp
        try with_reducible rfl
      try go_simp
      refine takeU (i := 5) (v := ?_) rfl (by kernel_rfl) (fun _ _ _ h => h) (Or.inl ⟨by rfl, fun w0 hw0 => ?_⟩) (fun p hp _ => hSw p hp) ?_
      rotate_left
      · simp [Reads] at hw0
        go_simp
        try with_reducible rfl
      try go_simp
      refine takeU (i := 8) (v := ?_) rfl (by kernel_rfl) (fun _ _ _ h => h) (Or.inl ⟨by rfl, fun w0 hw0 => ?_⟩) (fun p hp _ => hSw p hp) ?_
      rotate_left
      · simp [Reads] at hw0
        go_simp
        try with_reducible rfl
      try go_simp
      refine takeU (i := 9) (v := ?_) rfl (by kernel_rfl) (fun _ _ _ h => h) (Or.inl ⟨by rfl, fun w0 hw0 => ?_⟩) (fun p hp _ => hSw p hp) ?_
      rotate_left
      · simp [Reads] at hw0
        go_simp
        try with_reducible rfl
      try go_simp
      refine takeU (i := 10) (v := ?_) rfl (by kernel_rfl) (fun _ _ _ h => h) (Or.inl ⟨by rfl, fun w0 hw0 => ?_⟩) (fun p hp _ => hSw p hp) ?_
      rotate_left
      · simp [Reads] at hw0
        go_simp
        try with_reducible rfl
      try go_simp
      refine takeU (i := 11) (v := ?_) rfl (by kernel_rfl) (fun _ _ _ h => h) (Or.inl ⟨by rfl, fun w0 hw0 => ?_⟩) (fun p hp _ => hSw p hp) ?_
      rotate_left
      · simp [Reads] at hw0
        go_simp
        try with_reducible rfl
      try go_simp
      refine takeU (i := 12) (v := ?_) rfl (by kernel_rfl) (fun _ _ _ h => h) (Or.inl ⟨by rfl, fun w0 hw0 => ?_⟩) (fun p hp _ => hSw p hp) ?_
      rotate_left
      · simp [Reads] at hw0
        go_simp
        try with_reducible rfl
      try go_simp
      clear hSw
      refine oneU (i := 6) rfl (by kernel_rfl) (fun K hK => ?_)
      rw [if_pos (show Region.wanted _ _ = true from rfl)]
      go_wp2_with fail
      refine (putTextRb k0 w5 (by omega)).mono ?_
      rintro e w6 ⟨a6, c6, rfl, hT6, hk56⟩
      have hkB6 := hk5.trans hk56
      have hO6 := hO5.keep0 hk56
      have hs6 := hkB6.size
      simp only []
      refine hK _ _ (fun q hq _ _ => HR.out _ hkB6 q hq) ?_
      clear hK K
      try go_simp
      refine oneU (i := 7) rfl (by kernel_rfl) (fun K hK => ?_)
      refine step_append_by rfl _ _ 30 30 rfl (w.heap.size) 5 iB z 1 1 Tryd.underlying30 hi hz hsz hby hzc (a2) _ (c2) _ rfl hO6 _ rfl (tx k0).length _ (hT6.rb.src Tryd.underlying30) (by unfold maxLen; omega) (by omega) hs6 ?_
      intro a7 c7 w7 hO7 hk67 hb7
      have hk7 := hkB6.step hk67 (fun x hx => .inr (hO6.lt x hx).1)
      refine hK _ _ (fun q hq _ _ => HR.out _ hk7 q hq) ?_
      clear hK K
      try go_simp
      have hO7b : Own w7 w.heap.size a7 c7 (out ++ tx k0) := Own.of hO7 (bys_append _ _).symm
      obtain ⟨o7, ho7⟩ : ∃ o7, o7 = out ++ tx k0 := ⟨_, rfl⟩
      have e7 : out.length + (tx k0).length = o7.length := by rw [ho7]; simp
      have hle7 : o7.length ≤ out.length + (tx k0).length := by omega
      rw [← ho7] at hO7b
      rw [e7]
      have HO7 := Lib.hid ho7
      clear e7 ho7 hO7
      refine oneU (i := 13) rfl (by kernel_rfl) (fun K hK => ?_)
      rw [if_pos (show Region.wanted _ _ = true from rfl)]
      go_wp2_with fail
      refine (putTextRb v0 w7 (by omega)).mono ?_
      rintro e w8 ⟨a8, c8, rfl, hT8, hk78⟩
      have hkB8 := hk7.trans hk78
      have hO8 := hO7b.keep0 hk78
      have hs8 := hkB8.size
      simp only []
      refine hK _ _ (fun q hq _ _ => HR.out _ hkB8 q hq) ?_
      clear hK K
      try go_simp
      refine oneU (i := 14) rfl (by kernel_rfl) (fun K hK => ?_)
      refine step_append_by rfl _ _ 30 30 rfl (w.heap.size) 5 iB z 1 1 Tryd.underlying30 hi hz hsz hby hzc (a7) _ (c7) _ rfl hO8 _ rfl (tx v0).length _ (hT8.rb.src Tryd.underlying30) (by unfold maxLen; omega) (by omega) hs8 ?_
      intro a9 c9 w9 hO9 hk89 hb9
      have hk9 := hkB8.step hk89 (fun x hx => .inr (hO8.lt x hx).1)
      refine hK _ _ (fun q hq _ _ => HR.out _ hk9 q hq) ?_
      clear hK K
      try go_simp
      have hSw := HR.out _ hk9
      refine takeU (i := 15) (v := ?_) rfl (by kernel_rfl) (fun _ _ _ h => h) (Or.inl ⟨by rfl, fun w0 hw0 => ?_⟩) (fun p hp _ => hSw p hp) ?_
      rotate_left
      · simp [Reads] at hw0
        go_simp
        try with_reducible rfl
      try go_simp
      clear hSw
      refine doneU (by kernel_rfl) ?_
      go_wp2_with fail
      have hOf : Own w9 w.heap.size a9 c9 (outB m.length (m.take (i + 1))) := by
        have e : m.take (i + 1) = m.take i ++ [(k0, v0)] := by
          rw [List.take_add_one, HP.out]
          rfl
        rw [e, outB_snoc, ← HOU.out]
        rw [← HO7.out]
        exact Own.of hO9 (by rw [bys_append])
      have e9 : o7.length + (tx v0).length = (outB m.length (m.take (i + 1))).length := by
        have e : m.take (i + 1) = m.take i ++ [(k0, v0)] := by
          rw [List.take_add_one, HP.out]
          rfl
        rw [e, outB_snoc, ← HOU.out]
        rw [← HO7.out]
        simp
      rw [e9]
      go_roundw
      case rel => exact ⟨i + 1, a9, c9, by simp, by simp, by omega, hOf, hk9⟩
      case measure => simp [intOf]; omega
end Go.Proofs.YtknnhnpcgefchaaDoor
/- The law's steps: few. -/

namespace Go.Proofs.YtknnhnpcgefchaaDoor
open Go.RowKit Go.Lib

structure Stp where
  what : Int
  ka : Option Addr
  kc : Nat
  k : Bs
  va : Option Addr
  vc : Nat
  v : Bs
def Stp.cells (s : Stp) : List Value := [.int .i64 s.what, .slice s.ka s.k.length s.kc, .slice s.va s.v.length s.vc]
def sts (ss : List Stp) : List Value := (ss.map Stp.cells).flatten
theorem sts_length (m : List Stp) : (sts m).length = m.length * 3 := by
  induction m with
  | nil => rfl
  | cons p m ih => simp only [sts, List.map_cons, List.flatten_cons, List.length_append, List.length_cons] at ih ⊢; rw [ih]; simp [Stp.cells]; omega
theorem sts_drop (m : List Stp) (k : Nat) : (sts m).drop (k * 3) = sts (m.drop k) := by
  induction m generalizing k with
  | nil => simp [sts]
  | cons p m ih =>
    cases k with
    | zero => simp
    | succ k =>
      have e : sts (p :: m) = p.cells ++ sts m := rfl
      rw [e, show (k + 1) * 3 = p.cells.length + k * 3 by simp [Stp.cells]; omega, List.drop_length_add_append, ih]
      rfl
theorem sts_at {m : List Stp} {i : Nat} {p : Stp} (h : m[i]? = some p) (j : Nat) (u : Value) (hj : p.cells[j]? = some u) : (sts m)[i * 3 + j]? = some u := by
  obtain ⟨hl, rfl⟩ := List.getElem?_eq_some_iff.1 h
  have e : (sts m).drop (i * 3) = (m[i]).cells ++ sts (m.drop (i + 1)) := by
    rw [sts_drop, List.drop_eq_getElem_cons hl]
    rfl
  have := congrArg (fun x => x[j]?) e
  simp only [List.getElem?_drop] at this
  rw [this, List.getElem?_append_left (List.getElem?_eq_some_iff.1 hj).1, hj]
/-- a step's bytes -/
def Stp.At (w : World) (s : Stp) : Prop := Rb w s.ka s.kc s.k ∧ Rb w s.va s.vc s.v

/-- what few hands back -/
def FewPost (ss : List Stp) (w : World) (e : Ending) (w' : World) : Prop := ∃ b : Bool, e = .returned (.bool b) ∧ w' = w ∧ (b = true → (∀ s ∈ ss, s.k.length ≤ 100 ∧ s.v.length ≤ 100) ∧ ss.length ≤ 250)

set_option maxRecDepth 100000 in
set_option maxHeartbeats 4000000 in
theorem few_any {w : World} {ao : Option Addr} {c : Nat} {ss : List Stp} (hS : Sl w 3 ao ss.length c (sts ss)) (hm : ss.length ≤ 9223372036854775807) :
    Calls Tryd.prog 5 #[.slice ao ss.length c] w fun e w' => FewPost ss w e w' := by
  go_enter Tryd.func5, Tryd.ntmps5
  go_wp2_with fail
  go_loopw [3] (fun v wr => ∃ i : Nat, v = .int .i64 (i : Int) ∧ i ≤ ss.length ∧ wr = w ∧ ∀ s ∈ ss.take i, s.k.length ≤ 100 ∧ s.v.length ≤ 100) (fun v _ => ss.length - (intOf v).toNat)
  case atStart => exact ⟨0, rfl, Nat.zero_le _, rfl, by simp⟩
  case round =>
    obtain ⟨i, rfl, hin, hwr, hall⟩ := hrel
    subst hwr
    have HALL := Lib.hid hall
    clear hall
    rcases (by omega : i = ss.length ∨ i < ss.length) with hie | hil
    · have n1 : ¬ ((i : Int) < (ss.length : Int)) := by omega
      have HIE := Lib.hid hie
      clear hie
      by_cases h250 : ss.length ≤ 250
      · have n2 : (ss.length : Int) ≤ 250 := by omega
        go_wp2_with fail
        go_ret
        exact ⟨true, rfl, rfl, fun _ => ⟨by have := HALL.out; rw [List.take_of_length_le (Nat.le_of_eq HIE.out.symm)] at this; exact this, h250⟩⟩
      · have n2 : ¬ ((ss.length : Int) ≤ 250) := by omega
        go_wp2_with fail
        go_ret
        exact ⟨false, rfl, rfl, by simp⟩
    · obtain ⟨s, hs⟩ : ∃ s, ss[i]? = some s := ⟨_, List.getElem?_eq_getElem hil⟩
      have n1 : (i : Int) < (ss.length : Int) := by omega
      have n2 : (0 : Int) ≤ (i : Int) := by omega
      have hcap := hS.cap
      obtain ⟨bb, o, rfl⟩ := hS.at (by omega)
      have c1 : wr.cell? ⟨bb, o + i * 3 + 1, none⟩ = some (.slice s.ka s.k.length s.kc) := by
        have := hS.cells rfl _ _ (sts_at hs 1 _ rfl)
        rw [addr_add rfl] at this
        simpa [Nat.add_assoc] using this
      have c2 : wr.cell? ⟨bb, o + i * 3 + 2, none⟩ = some (.slice s.va s.v.length s.vc) := by
        have := hS.cells rfl _ _ (sts_at hs 2 _ rfl)
        rw [addr_add rfl] at this
        simpa [Nat.add_assoc] using this
      have HS := Lib.hid hs
      clear hs
      by_cases hk : 100 < s.k.length
      · have m1 : (100 : Int) < (s.k.length : Int) := by omega
        go_wp2_with fail
        go_ret
        exact ⟨false, rfl, rfl, by simp⟩
      · have m1 : ¬ ((100 : Int) < (s.k.length : Int)) := by omega
        by_cases hv : 100 < s.v.length
        · have m2 : (100 : Int) < (s.v.length : Int) := by omega
          go_wp2_with fail
          go_ret
          exact ⟨false, rfl, rfl, by simp⟩
        · have m2 : ¬ ((100 : Int) < (s.v.length : Int)) := by omega
          go_wp2_with fail
          go_roundw
          case rel =>
            refine ⟨i + 1, by simp, by omega, by first | rfl | trivial, fun x hx => ?_⟩
            rw [List.take_add_one, HS.out] at hx
            rcases List.mem_append.1 hx with hx | hx
            · exact HALL.out x hx
            · have hxe : x = s := by simpa using hx
              subst hxe
              omega
          case measure => simp [intOf]; omega
end Go.Proofs.YtknnhnpcgefchaaDoor
/- TreePlays: the law's state. -/

namespace Go.Proofs.YtknnhnpcgefchaaDoor
open Go.RowKit Go.Lib

theorem Tryd.sizeStep : (Tryd.prog.info? 32).map (·.size) = some 3 := by kernel_rfl
/-- any block but these three -/
def Off3 (a b c : Nat) : Nat → Prop := fun x => x ≠ a ∧ x ≠ b ∧ x ≠ c
/-- the law's state: tree t, cursor cb, clone tc; the entries m at a4, those of the clone at a5 -/
structure PSt (w : World) (t cb tc : Nat) (l lo : List KV) (k : Bs) (ab : Bool) (a4 : Option Addr) (c4 : Nat) (a5 : Option Addr) (c5 : Nat) : Prop where
  tr : TreeAt w (Off3 t cb tc) t l
  cl : TreeAt w (Off3 t cb tc) tc lo
  cu : CurAt w (Off3 t cb tc) cb t k ab
  n1 : t ≠ cb
  n2 : t ≠ tc
  n3 : cb ≠ tc
  m : Sl w 2 a4 l.length c4 (ents l)
  fm : Fr (Off3 t cb tc) a4 (ents l)
  o : Sl w 2 a5 lo.length c5 (ents lo)
  fo : Fr (Off3 t cb tc) a5 (ents lo)
  sm : ∀ p ∈ l, p.1.length ≤ 100 ∧ p.2.length ≤ 100
  so : ∀ p ∈ lo, p.1.length ≤ 100 ∧ p.2.length ≤ 100
  sh : (a4 = none ∧ c4 = 0) ∨ ∃ b o, a4 = some ⟨b, o, none⟩
theorem PSt.keep {w w' : World} {t cb tc : Nat} {l lo : List KV} {k : Bs} {ab : Bool} {a4 a5 : Option Addr} {c4 c5 : Nat} (h : PSt w t cb tc l lo k ab a4 c4 a5 c5) (hk : Keeps [] w w') : PSt w' t cb tc l lo k ab a4 c4 a5 c5 :=
  ⟨h.tr.keep0 hk, h.cl.keep0 hk, h.cu.keep0 hk, h.n1, h.n2, h.n3, h.m.keep0 hk, h.fm, h.o.keep0 hk, h.fo, h.sm, h.so, h.sh⟩
theorem rds4 {W : World} {F1 F2 F3 F4 : World → Prop} {i1 i2 i3 i4 : Nat} (h1 : F1 W) (h2 : F2 W) (h3 : F3 W) (h4 : F4 W) : ∀ p ∈ [(i1, F1), (i2, F2), (i3, F3), (i4, F4)], p.2 W := by
  intro p hp
  simp only [List.mem_cons, List.not_mem_nil, or_false] at hp
  rcases hp with rfl | rfl | rfl | rfl <;> assumption

theorem PSt.lt {w : World} {t cb tc : Nat} {l lo : List KV} {k : Bs} {ab : Bool} {a4 a5 : Option Addr} {c4 c5 : Nat} (h : PSt w t cb tc l lo k ab a4 c4 a5 c5) : t < w.heap.size ∧ cb < w.heap.size ∧ tc < w.heap.size := ⟨h.tr.lt, h.cu.lt, h.cl.lt⟩
/-- the tree turned, and the entries with it -/
theorem PSt.turn {w w' : World} {t cb tc : Nat} {l lo l' : List KV} {k : Bs} {ab : Bool} {a4 a5 a4' : Option Addr} {c4 c5 c4' : Nat} (h : PSt w t cb tc l lo k ab a4 c4 a5 c5) (hk : Keeps [t] w w') (ht : TreeAt w' (Off3 t cb tc) t l')
    (hm : Sl w' 2 a4' l'.length c4' (ents l')) (hfm : Fr (Off3 t cb tc) a4' (ents l')) (hs : ∀ p ∈ l', p.1.length ≤ 100 ∧ p.2.length ≤ 100) (hsh : (a4' = none ∧ c4' = 0) ∨ ∃ b o, a4' = some ⟨b, o, none⟩) : PSt w' t cb tc l' lo k ab a4' c4' a5 c5 := by
  have hF : ∀ x ∈ [t], ¬ Off3 t cb tc x := fun x hx => by simp at hx; subst hx; exact fun h => h.1 rfl
  exact ⟨ht, h.cl.keep hk (fun x hx => ⟨hF x hx, by simp at hx; subst hx; exact h.n2⟩), h.cu.keep hk (by simpa using h.n1.symm) hF, h.n1, h.n2, h.n3, hm, hfm, h.o.keepF h.fo hk hF, h.fo, hs, h.so, hsh⟩
/-- the cursor went on -/
theorem PSt.next {w w' : World} {t cb tc : Nat} {l lo : List KV} {k k' : Bs} {ab ab' : Bool} {a4 a5 : Option Addr} {c4 c5 : Nat} (h : PSt w t cb tc l lo k ab a4 c4 a5 c5) (hk : Keeps [cb] w w') (hc : CurAt w' (Off3 t cb tc) cb t k' ab') : PSt w' t cb tc l lo k' ab' a4 c4 a5 c5 := by
  have hF : ∀ x ∈ [cb], ¬ Off3 t cb tc x := fun x hx => by simp at hx; subst hx; exact fun h => h.2.1 rfl
  exact ⟨h.tr.keep hk (fun x hx => ⟨hF x hx, by simp at hx; subst hx; exact h.n1.symm⟩), h.cl.keep hk (fun x hx => ⟨hF x hx, by simp at hx; subst hx; exact h.n3⟩), hc, h.n1, h.n2, h.n3, h.m.keepF h.fm hk hF, h.fm, h.o.keepF h.fo hk hF, h.fo, h.sm, h.so, h.sh⟩
/-- another cursor -/
theorem PSt.seek {w w' : World} {t cb tc cb' : Nat} {l lo : List KV} {k k' : Bs} {ab : Bool} {a4 a5 : Option Addr} {c4 c5 : Nat} (h : PSt w t cb tc l lo k ab a4 c4 a5 c5) (hk : Keeps [] w w') (hn : w.heap.size ≤ cb') (hc : CurAt w' (fun x => w.heap.size ≤ x ∧ x ≠ cb') cb' t k' false) : PSt w' t cb' tc l lo k' false a4 c4 a5 c5 := by
  obtain ⟨l1, l2, l3⟩ := h.lt
  have hF : ∀ x, Off3 t cb tc x → x < w.heap.size → Off3 t cb' tc x := fun x hx hlt => ⟨hx.1, by omega, hx.2.2⟩
  exact ⟨(h.tr.mono hF (fun h => h.1 rfl)).keep0 hk, (h.cl.mono hF (fun h => h.2.2 rfl)).keep0 hk, hc.mono (fun x hx _ => ⟨by have := hx.1; omega, hx.2, by have := hx.1; omega⟩), by omega, h.n2, by omega, h.m.keep0 hk, h.fm.mono h.m hF, h.o.keep0 hk, h.fo.mono h.o hF, h.sm, h.so, h.sh⟩
/-- another clone -/
theorem PSt.clone {w w' : World} {t cb tc tc' : Nat} {l lo : List KV} {k : Bs} {ab : Bool} {a4 a5 : Option Addr} {c4 c5 : Nat} (h : PSt w t cb tc l lo k ab a4 c4 a5 c5) (hk : Keeps [] w w') (hn : w.heap.size ≤ tc') (hc : TreeAt w' (fun x => Off3 t cb tc x ∧ x < w.heap.size) tc' l) : PSt w' t cb tc' l l k ab a4 c4 a4 c4 := by
  obtain ⟨l1, l2, l3⟩ := h.lt
  have hF : ∀ x, Off3 t cb tc x → x < w.heap.size → Off3 t cb tc' x := fun x hx hlt => ⟨hx.1, hx.2.1, by omega⟩
  exact ⟨(h.tr.mono hF (fun h => h.1 rfl)).keep0 hk, hc.mono (fun x hx _ => hF x hx.1 hx.2) (fun h => h.2.2 rfl), (h.cu.mono hF).keep0 hk, h.n1, by omega, by omega, h.m.keep0 hk, h.fm.mono h.m hF, h.m.keep0 hk, h.fm.mono h.m hF, h.sm, h.sm, h.sh⟩
/-- the entries behind a Put, a Del, as the law lays them -/
theorem ins_lay {l : List KV} {k v : Bs} (hs : Srt l) : ins k v l = l.take (lo k l).length ++ (k, v) :: l.drop ((lo k l).length + if has k l then 1 else 0) := by
  have e := hs.split (k := k)
  have e1 : l.take (lo k l).length = lo k l := by
    conv => lhs; arg 2; rw [e]
    exact List.take_left' rfl
  have e2 : l.drop (lo k l).length = frm k l := by
    conv => lhs; arg 2; rw [e]
    exact List.drop_left' rfl
  unfold ins
  rw [e1]
  congr 2
  rcases hs.frm_cases (k := k) with ⟨g1, g2⟩ | ⟨v', g1, g2, _⟩
  · rw [g1, ← g2, ← e2]
    simp
  · rw [g1, if_pos rfl, ← List.drop_drop, e2, g2]
    rfl
theorem del_lay {l : List KV} {k : Bs} (hs : Srt l) (h : has k l = true) : del k l = l.take (lo k l).length ++ l.drop ((lo k l).length + 1) := by
  have e := hs.split (k := k)
  have e1 : l.take (lo k l).length = lo k l := by
    conv => lhs; arg 2; rw [e]
    exact List.take_left' rfl
  have e2 : l.drop (lo k l).length = frm k l := by
    conv => lhs; arg 2; rw [e]
    exact List.drop_left' rfl
  unfold del
  rw [e1]
  congr 1
  rcases hs.frm_cases (k := k) with ⟨g1, _⟩ | ⟨v', _, g2, _⟩
  · rw [g1] at h; cases h
  · rw [← List.drop_drop, e2, g2]
    rfl
/-- where a cursor goes on, among the entries -/
theorem nxt_lay {l : List KV} {k : Bs} {ab : Bool} (hs : Srt l) : nxt k ab l = l[(lo k l).length + if ab && has k l then 1 else 0]? := by
  have e := hs.split (k := k)
  have e2 : l.drop (lo k l).length = frm k l := by
    conv => lhs; arg 2; rw [e]
    exact List.drop_left' rfl
  rw [← List.getElem?_drop, e2]
  cases ab with
  | false =>
    change (frm k l).head? = _
    simp [List.head?_eq_getElem?]
  | true =>
    change (hi k l).head? = _
    rcases hs.frm_cases (k := k) with ⟨g1, g2⟩ | ⟨v', g1, g2, _⟩
    · rw [g1, g2]
      simp [List.head?_eq_getElem?]
    · rw [g1, g2]
      simp [List.head?_eq_getElem?]

theorem ents_set (A B : List KV) (k v0 v : Bs) : (ents (A ++ (k, v0) :: B)).set (A.length * 2 + 1) (.string ⟨v.toArray⟩) = ents (A ++ (k, v) :: B) := by
  have e : ∀ x, ents ((k, x) :: B) = Value.string ⟨k.toArray⟩ :: Value.string ⟨x.toArray⟩ :: ents B := fun x => rfl
  rw [ents_app, ents_app, e, e, List.set_append, if_neg (by rw [ents_length]; omega), ents_length, show A.length * 2 + 1 - A.length * 2 = 1 by omega]
  rfl
theorem infoE : ∃ i z, Tryd.prog.info? 38 = some i ∧ i.zero = some z ∧ i.size = 2 ∧ i.bytes = 32 ∧ z.cells.size = 2 := by
  have h : (Tryd.prog.info? 38).map (fun i => (i.size, i.bytes, (i.zero.map fun z => z.cells.size))) = some (2, 32, some 2) := by kernel_rfl
  obtain ⟨i, hi, hx⟩ := Option.map_eq_some_iff.1 h
  simp only [Prod.mk.injEq] at hx
  obtain ⟨z, hz, hc⟩ := Option.map_eq_some_iff.1 hx.2.2
  exact ⟨i, z, hi, hz, hx.1, hx.2.1, hc⟩
/-- a key that is there stands at its place -/
theorem has_place {l : List KV} {k : Bs} (hs : Srt l) (h : has k l = true) : ∃ v0, l[(lo k l).length]? = some (k, v0) ∧ (lo k l).length < l.length ∧ l = l.take (lo k l).length ++ (k, v0) :: l.drop ((lo k l).length + 1) := by
  have e := hs.split (k := k)
  rcases hs.frm_cases (k := k) with ⟨g1, _⟩ | ⟨v', _, g2, _⟩
  · rw [g1] at h; cases h
  · have h1 : l[(lo k l).length]? = some (k, v') := by
      generalize hr : (lo k l).length = r
      rw [e, List.getElem?_append_right (by omega), hr, Nat.sub_self, g2]
      rfl
    have h2 := mid_split h1
    rw [List.append_assoc, List.singleton_append] at h2
    exact ⟨v', h1, (List.getElem?_eq_some_iff.1 h1).1, h2⟩
theorem sm_ins {l : List KV} {k v : Bs} (h : ∀ p ∈ l, p.1.length ≤ 100 ∧ p.2.length ≤ 100) (hk : k.length ≤ 100) (hv : v.length ≤ 100) : ∀ p ∈ ins k v l, p.1.length ≤ 100 ∧ p.2.length ≤ 100 := fun p hp => by
  rcases mem_ins.1 hp with rfl | ⟨hp, _⟩
  · exact ⟨hk, hv⟩
  · exact h p hp
end Go.Proofs.YtknnhnpcgefchaaDoor
