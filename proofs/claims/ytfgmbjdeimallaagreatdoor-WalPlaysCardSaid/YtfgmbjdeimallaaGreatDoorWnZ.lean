/- Sums of bytes, plainly: they are linear; a bit that is turned; a sum that fits. -/
import Derived.Test.YtfgmbjdeimallaaGreatDoorWfZ
import Derived.Test.YtfgmbjdeimallaaGreatDoorWvZ
import Derived.Lib.SliceRun
import Derived.Lib.EndianBits
namespace Go.Proofs.YtfgmbjdeimallaaGreatDoor
open Go.RowKit Go.Lib

theorem crc1_xor (a b : Nat) : crc1 (a ^^^ b) = crc1 a ^^^ crc1 b := by
  have hd : (a ^^^ b) / 2 = a / 2 ^^^ b / 2 := Nat.xor_div_two
  have hm : (a ^^^ b) % 2 = (a % 2 + b % 2) % 2 := by
    have h1 := @Nat.xor_mod_two_eq_one a b
    rcases Nat.mod_two_eq_zero_or_one a with ha | ha <;> rcases Nat.mod_two_eq_zero_or_one b with hb | hb <;> rcases Nat.mod_two_eq_zero_or_one (a ^^^ b) with hc | hc <;> simp_all
  unfold crc1
  rw [hd, hm]
  rcases Nat.mod_two_eq_zero_or_one a with ha | ha <;> rcases Nat.mod_two_eq_zero_or_one b with hb | hb <;> simp only [ha, hb]
  · simp
  · simp [Nat.xor_assoc]
  · simp only [if_true, Nat.zero_ne_one, if_false]
    rw [Nat.xor_assoc, Nat.xor_comm (b / 2), ← Nat.xor_assoc]
  · simp only [Nat.reduceAdd, Nat.reduceMod, if_true, Nat.zero_ne_one, if_false]
    have : (a / 2 ^^^ 3988292384) ^^^ (b / 2 ^^^ 3988292384) = (a / 2 ^^^ b / 2) ^^^ (3988292384 ^^^ 3988292384) := by
      rw [Nat.xor_assoc, Nat.xor_assoc, ← Nat.xor_assoc 3988292384, Nat.xor_comm 3988292384 (b / 2), Nat.xor_assoc (b / 2)]
    rw [this, Nat.xor_self, Nat.xor_zero]
theorem crcN_xor : ∀ (n a b : Nat), crcN n (a ^^^ b) = crcN n a ^^^ crcN n b
  | 0, _, _ => rfl
  | n + 1, a, b => by
    show crcN n (crc1 (a ^^^ b)) = crcN n (crc1 a) ^^^ crcN n (crc1 b)
    rw [crc1_xor, crcN_xor n]
theorem crcN_add : ∀ (m n s : Nat), crcN (m + n) s = crcN n (crcN m s)
  | 0, n, s => by rw [Nat.zero_add]; rfl
  | m + 1, n, s => by
    rw [show m + 1 + n = (m + n) + 1 by omega]
    exact crcN_add m n (crc1 s)
theorem crc1_zero {a : Nat} (h : crc1 a = 0) (ha : a < 4294967296) : a = 0 := by
  unfold crc1 at h
  split at h
  · exfalso
    have h1 : a / 2 = 3988292384 := by
      have := congrArg (· ^^^ 3988292384) h
      simp only [Nat.xor_assoc, Nat.xor_self, Nat.xor_zero, Nat.zero_xor] at this
      exact this
    omega
  · omega
theorem crcN_zero : ∀ (n : Nat) {a : Nat}, crcN n a = 0 → a < 4294967296 → a = 0
  | 0, _, h, _ => h
  | n + 1, _, h, ha => crc1_zero (crcN_zero n h (crc1_lt ha)) ha
theorem crc1_even (x : Nat) : crc1 (2 * x) = x := by
  unfold crc1
  rw [if_neg (by omega)]
  omega
theorem crcN_shift : ∀ (k x : Nat), crcN k (2 ^ k * x) = x
  | 0, x => by simp [crcN]
  | k + 1, x => by
    show crcN k (crc1 (2 ^ (k + 1) * x)) = x
    rw [Nat.pow_succ, Nat.mul_comm (2 ^ k) 2, Nat.mul_assoc, crc1_even, crcN_shift k]
theorem crcF_xor : ∀ (l : List UInt8) (x y : Nat), crcF (x ^^^ y) l = crcF x l ^^^ crcN (8 * l.length) y
  | [], _, _ => rfl
  | b :: l, x, y => by
    rw [crcF_cons, crcF_cons, Nat.xor_assoc, Nat.xor_comm y, ← Nat.xor_assoc, crcN_xor, crcF_xor l, List.length_cons, show 8 * (l.length + 1) = 8 + 8 * l.length by omega, crcN_add]
/-- one bit turned -/
theorem crcF_flip : ∀ (l : List UInt8) (s q : Nat) (x : UInt8) (r : Nat) (hq : q < l.length), r < 8 → x.toNat = l[q].toNat ^^^ 2 ^ r → crcF s (l.set q x) = crcF s l ^^^ crcN (8 * l.length - (8 * q + r)) 1
  | b :: l, s, 0, x, r, _, hr, hx => by
    simp only [List.getElem_cons_zero] at hx
    rw [List.set_cons_zero, crcF_cons, crcF_cons, hx, ← Nat.xor_assoc, crcN_xor, crcF_xor]
    congr 1
    rw [List.length_cons, show 8 * (l.length + 1) - (8 * 0 + r) = (8 - r) + 8 * l.length by omega, crcN_add]
    congr 1
    have := crcN_shift r 1
    rw [Nat.mul_one] at this
    rw [show 8 = r + (8 - r) by omega, crcN_add, this]
    congr 1
    omega
  | b :: l, s, q + 1, x, r, hq, hr, hx => by
    simp only [List.getElem_cons_succ] at hx
    rw [List.set_cons_succ, crcF_cons, crcF_cons, crcF_flip l _ q x r (by simpa using hq) hr hx, List.length_cons]
    congr 2
    omega
theorem num4_val (t : Nat) (ht : t < 4294967296) : (UInt8.ofNat t).toNat = t % 256 ∧ (UInt8.ofNat (t / 256)).toNat = t / 256 % 256 ∧ (UInt8.ofNat (t / 65536)).toNat = t / 65536 % 256 ∧ (UInt8.ofNat (t / 16777216)).toNat = t / 16777216 := by
  refine ⟨by rw [UInt8.toNat_ofNat'], by rw [UInt8.toNat_ofNat'], by rw [UInt8.toNat_ofNat'], by rw [UInt8.toNat_ofNat']; omega⟩
theorem xor_low (t : Nat) : t = t % 256 ^^^ 2 ^ 8 * (t / 256) := by
  have h1 : t % 256 ||| 2 ^ 8 * (t / 256) = t := by
    rw [Nat.or_comm]
    have := Nat.two_pow_add_eq_or_of_lt (i := 8) (b := t % 256) (by omega) (t / 256)
    omega
  have h2 : t % 256 ^^^ 2 ^ 8 * (t / 256) = t % 256 ||| 2 ^ 8 * (t / 256) := by
    apply Nat.eq_of_testBit_eq
    intro i
    rw [Nat.testBit_xor, Nat.testBit_or]
    by_cases hi : i < 8
    · have : (2 ^ 8 * (t / 256)).testBit i = false := by rw [Nat.testBit_two_pow_mul]; simp; omega
      simp [this]
    · have : (t % 256).testBit i = false := Nat.testBit_lt_two_pow (Nat.lt_of_lt_of_le (by omega : t % 256 < 2 ^ 8) (Nat.pow_le_pow_right (by decide) (by omega)))
      simp [this]
  rw [h2, h1]
theorem crcF_low (s t : Nat) : crcN 8 (s ^^^ t) = crcN 8 (s ^^^ t % 256) ^^^ (t / 256) := by
  have := xor_low t
  conv => lhs; rw [this]
  rw [← Nat.xor_assoc, crcN_xor, crcN_shift]
/-- four bytes at once -/
theorem crcF_num4 (s t : Nat) (ht : t < 4294967296) : crcF s (num4 t) = crcN 32 (s ^^^ t) := by
  obtain ⟨h0, h1, h2, h3⟩ := num4_val t ht
  unfold num4
  rw [crcF_cons, crcF_cons, crcF_cons, crcF_cons, crcF_nil, h0, h1, h2, h3]
  have e1 := crcF_low s t
  have e2 := crcF_low (crcN 8 (s ^^^ t % 256)) (t / 256)
  have e3 := crcF_low (crcN 8 (crcN 8 (s ^^^ t % 256) ^^^ t / 256 % 256)) (t / 65536)
  rw [show t / 256 / 256 = t / 65536 by omega] at e2
  rw [show t / 65536 / 256 = t / 16777216 by omega] at e3
  rw [show (32 : Nat) = 8 + (8 + (8 + 8)) by rfl, crcN_add, e1, crcN_add, e2, crcN_add, e3]
theorem crcF_append : ∀ (l m : List UInt8) (s : Nat), crcF s (l ++ m) = crcF (crcF s l) m
  | [], _, _ => rfl
  | b :: l, m, s => by rw [List.cons_append, crcF_cons, crcF_cons, crcF_append l m]
/-- a sum fits just where the whole stands as it ought to -/
theorem sum_fits (p : List UInt8) (t : Nat) (ht : t < 4294967296) : (t = crc p ↔ crcF 4294967295 (p ++ num4 t) = crcN 32 4294967295) := by
  have hp := crcF_lt p (s := 4294967295) (by decide)
  rw [crcF_append, crcF_num4 _ _ ht]
  have hc : crcF 4294967295 p ^^^ crc p = 4294967295 := by
    unfold crc
    have := xor_ones32 (crcF 4294967295 p) hp
    have e : (2 ^ 32 - 1 : Nat) = 4294967295 := by decide
    rw [e] at this
    rw [← this, Nat.xor_comm 4294967295, ← Nat.xor_assoc, Nat.xor_self, Nat.zero_xor]
  constructor
  · rintro rfl
    rw [hc]
  · intro h
    have h1 : crcN 32 ((crcF 4294967295 p ^^^ t) ^^^ 4294967295) = 0 := by rw [crcN_xor, h, Nat.xor_self]
    have h2 := crcN_zero 32 h1 (Nat.xor_lt_two_pow (n := 32) (Nat.xor_lt_two_pow (n := 32) hp ht) (by decide))
    have h3 : crcF 4294967295 p ^^^ t = crcF 4294967295 p ^^^ crc p := by
      rw [hc]
      have := congrArg (· ^^^ 4294967295) h2
      simp only [Nat.xor_assoc, Nat.xor_self, Nat.xor_zero, Nat.zero_xor] at this
      exact this
    have h4 := congrArg (crcF 4294967295 p ^^^ ·) h3
    simp only [← Nat.xor_assoc, Nat.xor_self, Nat.zero_xor] at h4
    exact h4
end Go.Proofs.YtfgmbjdeimallaaGreatDoor
/- Frames read: read, Clone, Unframe. -/

namespace Go.Proofs.YtfgmbjdeimallaaGreatDoor
open Go.RowKit Go.Lib

/-- the number that four bytes tell -/
def val4 : List UInt8 → Nat
  | a :: b :: c :: d :: _ => a.toNat + 256 * b.toNat + 65536 * c.toNat + 16777216 * d.toNat
  | _ => 0
theorem val4_lt (l : List UInt8) : val4 l < 4294967296 := by
  unfold val4
  split
  · rename_i a b c d _
    have := a.toNat_lt; have := b.toNat_lt; have := c.toNat_lt; have := d.toNat_lt
    omega
  · omega

theorem readFacts (a b c d : Nat) (ha : a < 256) (hb : b < 256) (hc : c < 256) (hd : d < 256) :
    ∃ y1 y2 y3 z1 z2 z3 : Int, IntKind.u32.wrap ((b : Int) * 256) = y1 ∧ IntKind.u32.wrap ((c : Int) * 65536) = y2 ∧ IntKind.u32.wrap ((d : Int) * 16777216) = y3 ∧
      bits .or .u32 (a : Int) y1 = z1 ∧ bits .or .u32 z1 y2 = z2 ∧ bits .or .u32 z2 y3 = z3 ∧ z3 = ((a + 256 * b + 65536 * c + 16777216 * d : Nat) : Int) := by
  refine ⟨(b : Int) * 256, (c : Int) * 65536, (d : Int) * 16777216, (a : Int) + b * 256, (a : Int) + b * 256 + c * 65536, (a : Int) + b * 256 + c * 65536 + d * 16777216, IntWalk.u32_in _ (by omega), IntWalk.u32_in _ (by omega), IntWalk.u32_in _ (by omega), ?_, ?_, ?_, by omega⟩
  · exact u32_or8 _ _ (by omega) (by omega) (by omega) (by omega) (by omega)
  · exact u32_or16 _ _ (by omega) (by omega) (by omega) (by omega) (by omega)
  · exact u32_or24 _ _ (by omega) (by omega) (by omega) (by omega) (by omega)

set_option maxRecDepth 100000 in
set_option maxHeartbeats 4000000 in
theorem read_any (ao : Option Addr) (c : Nat) (l : List UInt8) (w : World) (h : Rb w ao c l) (hl : 4 ≤ l.length) :
    Calls Tryz.prog 53 #[.slice ao l.length c] w fun e w' => e = .returned (.int .u32 (val4 l)) ∧ ∃ m, w' = w.drewN m := by
  obtain ⟨bb, o, rfl⟩ := h.at (by have := h.cap; omega)
  have c0 := h.cell _ rfl 0 _ (bys_at (by omega))
  have c1 := h.cell _ rfl 1 _ (bys_at (by omega))
  have c2 := h.cell _ rfl 2 _ (bys_at (by omega))
  have c3 := h.cell _ rfl 3 _ (bys_at (by omega))
  simp only [Nat.add_zero] at c0 c1 c2 c3
  have hv : val4 l = l[0].toNat + 256 * l[1].toNat + 65536 * l[2].toNat + 16777216 * l[3].toNat := by
    match l, hl with
    | a :: b :: c :: d :: r, _ => rfl
  obtain ⟨y1, y2, y3, z1, z2, z3, e1, e2, e3, e4, e5, e6, e7⟩ := readFacts l[0].toNat l[1].toNat l[2].toNat l[3].toNat l[0].toNat_lt l[1].toNat_lt l[2].toNat_lt l[3].toNat_lt
  rw [← hv] at e7
  have hr : Calls Tryz.prog 53 #[.slice (some ⟨bb, o, none⟩) l.length c] w fun e w' => e = .returned (.int .u32 z3) ∧ ∃ m, w' = w.drewN m := by
    have b0 := l[0].toNat_lt
    have b1 := l[1].toNat_lt
    have b2 := l[2].toNat_lt
    have b3 := l[3].toNat_lt
    clear e7 hv
    generalize l[0].toNat = x0 at *
    generalize l[1].toNat = x1 at *
    generalize l[2].toNat = x2 at *
    generalize l[3].toNat = x3 at *
    have s0 : IntKind.u32.wrap (x0 : Int) = x0 := IntWalk.u32_in _ (by omega)
    have s1 : IntKind.u32.wrap (x1 : Int) = x1 := IntWalk.u32_in _ (by omega)
    have s2 : IntKind.u32.wrap (x2 : Int) = x2 := IntWalk.u32_in _ (by omega)
    have s3 : IntKind.u32.wrap (x3 : Int) = x3 := IntWalk.u32_in _ (by omega)
    have g0 : ¬ (l.length ≤ 0) := by omega
    have g1 : 0 < l.length := by omega
    have g2 : 1 < l.length := by omega
    have g3 : 2 < l.length := by omega
    have g4 : 3 < l.length := by omega
    clear hl h
    go_enter Tryz.func53, Tryz.ntmps53
    go_upto_region 1 with (fail)
    go_quiet (fail)
    go_wp2_with fail
    go_ret
    exact ⟨rfl, _, rfl⟩
  rw [e7] at hr
  exact hr

set_option maxRecDepth 100000 in
theorem clone_bytes (ad : Addr) (c : Nat) (l : List UInt8) (w : World) (h : Rb w (some ad) c l) (hl : l.length ≤ 1000000000) :
    Calls Tryz.prog 42 #[.slice (some ad) l.length c] w fun e w' => ∃ bo d, e = .returned (.slice bo l.length d) ∧ Rb w' bo d l ∧ Keeps [] w w' := by
  obtain ⟨i, z, hi, hz, hsz, hby, hzc⟩ := infoB
  have q := fun (W : World) (a : Option Addr) (n c n' c' : Nat) => Lib.run_eql_slice_nil (P := Tryz.prog) W 26 _ a n c n' c' Tryz.underlying26
  have hk0 := (Keeps.refl [] w).alloc (.cells #[] 5)
  have hO0 : Own (w.alloc (.cells #[] 5)) w.heap.size (some ⟨w.heap.size, 0, none⟩) 0 [] := World.ownsRow_lit (base := w.heap.size) (e := 5) (size := 1) w #[] 0 (Nat.le_refl _) (by decide) rfl
  have h0 := h.keep0 hk0
  go_enter Tryz.func42, Tryz.ntmps42
  go_wp2_with (at_builtin; refine wpList_append_by _ rfl _ _ 26 26 rfl w.heap.size 5 i z 1 1 Tryz.underlying26 hi hz hsz hby hzc (some ⟨w.heap.size, 0, none⟩) _ 0 _ rfl hO0 _ rfl l.length _ (h0.src Tryz.underlying26) (by unfold maxLen; omega) (by omega) (by simp) ?_; intro a1 c1 w1 hO1 hk1 hb1)
  have hO2 : Own w1 w.heap.size a1 c1 l := Own.of hO1 rfl
  go_ret
  exact ⟨a1, c1, rfl, hO2.rb, hk0.own hk1 hO0⟩

/-- what Unframe tells -/
def unfr (l : List UInt8) : List UInt8 × Nat × Nat :=
  if l.length < 4 then ([], 0, 22) else
  if 262144 < val4 l then ([], 0, 20) else
  if l.length < val4 l + 8 then ([], 0, 22) else
  if val4 (l.drop (val4 l + 4)) ≠ crc (l.take (val4 l + 4)) then ([], 0, 21) else
  ((l.drop 4).take (val4 l), val4 l + 8, 0)

set_option maxRecDepth 100000 in
set_option maxHeartbeats 4000000 in
theorem unframe_any (ao : Option Addr) (c : Nat) (l : List UInt8) (w : World) (h : Rb w ao c l) :
    Calls Tryz.prog 33 #[.slice ao l.length c] w fun e w' => ∃ bo d ev, e = .returned (.tuple #[.slice bo (unfr l).1.length d, .int .i64 (unfr l).2.1, ev]) ∧ Rb w' bo d (unfr l).1 ∧ ErrF w' ev (unfr l).2.2 ∧ Keeps [] w w' := by
  have hmx := h.most
  have hcp := h.cap
  unfold maxLen at hmx
  generalize hres : unfr l = res
  unfold unfr at hres
  by_cases h4 : l.length < 4
  · rw [if_pos h4] at hres
    subst hres
    have n1 : (l.length : Int) < 4 := by omega
    go_enter Tryz.func33, Tryz.ntmps33
    go_wp2_with fail
    refine (wshort _ w).mono ?_
    rintro e w1 ⟨g, rfl, hE, hk1⟩
    go_wp2_with fail
    go_ret3
    exact ⟨none, 0, _, rfl, Sl.none _ _, ErrF.of hE (by simp), hk1⟩
  rw [if_neg h4] at hres
  have n1 : ¬ ((l.length : Int) < 4) := by omega
  have R := read_any ao c l w h (by omega)
  have hvl := val4_lt l
  generalize hv : val4 l = n at *
  by_cases h20 : 262144 < n
  · rw [if_pos h20] at hres
    subst hres
    have n2 : (262144 : Int) < (n : Int) := by omega
    go_enter Tryz.func33, Tryz.ntmps33
    go_wp2_with fail
    refine R.mono ?_
    rintro e w1 ⟨rfl, m, rfl⟩
    go_wp2_with fail
    refine (wform _ _).mono ?_
    rintro e w2 ⟨g, rfl, hE, hk1⟩
    go_wp2_with fail
    go_ret3
    exact ⟨none, 0, _, rfl, Sl.none _ _, ErrF.of hE (by simp), ((Keeps.refl [] w).drewN m).trans hk1⟩
  rw [if_neg h20] at hres
  have n2 : ¬ ((262144 : Int) < (n : Int)) := by omega
  have q1 : IntKind.i64.wrap (n : Int) = n := IntWalk.i64_in _ (by omega)
  have q2 : IntKind.i64.wrap (4 + (n : Int)) = ((n + 4 : Nat) : Int) := by rw [IntWalk.i64_in _ (by omega)]; omega
  have q3 : IntKind.i64.wrap (((n + 4 : Nat) : Int) + 4) = ((n + 8 : Nat) : Int) := by rw [IntWalk.i64_in _ (by omega)]; omega
  obtain ⟨e4, he4⟩ : ∃ e4, e4 = n + 4 := ⟨_, rfl⟩
  obtain ⟨e8, he8⟩ : ∃ e8, e8 = n + 8 := ⟨_, rfl⟩
  rw [← he4] at q2 q3 hres
  rw [← he8] at q3 hres
  by_cases h22 : l.length < e8
  · rw [if_pos h22] at hres
    subst hres
    have n3 : (l.length : Int) < (e8 : Int) := by omega
    go_enter Tryz.func33, Tryz.ntmps33
    go_wp2_with fail
    refine R.mono ?_
    rintro e w1 ⟨rfl, m, rfl⟩
    go_wp2_with fail
    refine (wshort _ _).mono ?_
    rintro e w2 ⟨g, rfl, hE, hk1⟩
    go_wp2_with fail
    go_ret3
    exact ⟨none, 0, _, rfl, Sl.none _ _, ErrF.of hE (by simp), ((Keeps.refl [] w).drewN m).trans hk1⟩
  rw [if_neg h22] at hres
  have n3 : ¬ ((l.length : Int) < (e8 : Int)) := by omega
  have n4 : e4 ≤ l.length := by omega
  have n5 : e4 ≤ c := by omega
  have hlen8 : e4 + 4 ≤ l.length := by omega
  obtain ⟨bb, o, rfl⟩ := h.at (by omega)
  have hD := h.drop (k := e4) n4
  have hDb : (bys l).drop (e4 * 1) = bys (l.drop e4) := by unfold bys; rw [Nat.mul_one, List.map_drop]
  have hDl : (l.drop e4).length = l.length - e4 := by simp
  have hT := h.take (k := e4) (c' := c) n4 n5 (Nat.le_refl _)
  have hTb : (bys l).take (e4 * 1) = bys (l.take e4) := by unfold bys; rw [Nat.mul_one, List.map_take]
  have hTl : (l.take e4).length = e4 := by simp; omega
  have hne : ¬ (c = e4) := by omega
  rw [if_neg hne, hDb, Nat.mul_one] at hD
  rw [hTb] at hT
  simp only [Option.map_some] at hD
  have ha : (⟨bb, o, none⟩ : Addr).add e4 = ⟨bb, o + e4, none⟩ := by unfold Addr.add; split <;> simp_all
  rw [ha] at hD
  have T1 := fun (W : World) (hk : Keeps [] w W) => read_any (some ⟨bb, o + e4, none⟩) (c - e4) (l.drop e4) W (by unfold Rb; rw [hDl]; exact hD.keep0 hk) (by rw [hDl]; omega)
  have T2 := fun (W : World) (hk : Keeps [] w W) => sum_any (some ⟨bb, o, none⟩) c (l.take e4) W (by unfold Rb; rw [hTl]; exact hT.keep0 hk)
  rw [hDl] at T1
  rw [hTl] at T2
  generalize val4 (l.drop e4) = v at *
  generalize crc (l.take e4) = s at *
  have HT1 := Lib.hid T1
  have HT2 := Lib.hid T2
  have HH := Lib.hid h
  have HE4 := Lib.hid he4
  have HE8 := Lib.hid he8
  clear T1 T2 hD hT hDb hTb hDl hTl he4 he8
  go_enter Tryz.func33, Tryz.ntmps33
  go_wp2_with fail
  refine R.mono ?_
  rintro e w1 ⟨rfl, m, rfl⟩
  have hk1 := (Keeps.refl [] w).drewN m
  generalize World.drewN w m = w1 at *
  clear R
  go_upto_region 9 with (fail)
  have T1 := Lib.hid fun m => HT1.out (w1.drewN m) (hk1.drewN m)
  have T2 := Lib.hid fun m => HT2.out (w1.drewN m) (hk1.drewN m)
  clear HT1 HT2
  go_quiet (first
    | (go_at_call 53; exact Calls.quiet_of (T1.out _))
    | (go_at_call 55; exact Calls.quiet_of_same (T2.out _)))
  have hk2 := hk1.drewN nq
  generalize World.drewN w1 nq = w2 at *
  clear T1 T2 hk1
  by_cases hvs : v = s
  rotate_left
  · rw [if_pos hvs] at hres
    subst hres
    have n6 : ¬ ((v : Int) = (s : Int)) := by omega
    clear hvs
    go_wp2_with fail
    go_ret3
    exact ⟨none, 0, _, rfl, Sl.none _ _, .inr ⟨by decide, _, _, rfl, Blk.fresh _ _ _⟩, hk2.alloc _⟩
  rw [if_neg (by simp [hvs])] at hres
  have n7 : e4 - 4 = n := by rw [HE4.out]; omega
  have n8 : 4 ≤ e4 := by rw [HE4.out]; omega
  have hc4 : ¬ (c = 4) := by omega
  have q4 : IntKind.i64.wrap ((e4 : Int) + 4) = e8 := q3
  have hP := HH.out.part (z := 4) (n := n) (by omega)
  rw [if_neg hc4] at hP
  simp only [Option.map_some] at hP
  have ha4 : (⟨bb, o, none⟩ : Addr).add 4 = ⟨bb, o + 4, none⟩ := by unfold Addr.add; simp
  rw [ha4] at hP
  have hpl : ((l.drop 4).take n).length = n := by simp; omega
  have C := clone_bytes ⟨bb, o + 4, none⟩ (c - 4) ((l.drop 4).take n) w2 (hP.keep0 hk2) (by omega)
  rw [hpl] at C
  subst hres
  have hvs' : ((v : Int) == (s : Int)) = true := by simp [hvs]
  subst hvs
  clear hP hpl ha4
  go_wp2_with fail
  refine C.mono ?_
  rintro e w3 ⟨bo, d, rfl, hR3, hk3⟩
  clear C
  go_wp2_with fail
  go_ret3
  exact ⟨bo, d, .nilIface, by
    have x1 := HE4.out
    rw [show min n (l.length - 4) = n by omega]
    rfl, hR3, .inl ⟨rfl, rfl⟩, hk2.trans hk3⟩
end Go.Proofs.YtfgmbjdeimallaaGreatDoor
/- Frames, plainly: what is framed comes back; bits that were turned within thirty-two of its payload or sum are told. -/
namespace Go.Proofs.YtfgmbjdeimallaaGreatDoor
open Go.RowKit Go.Lib

theorem val4_num4 (t : Nat) (ht : t < 4294967296) (l : List UInt8) : val4 (num4 t ++ l) = t := by
  obtain ⟨h0, h1, h2, h3⟩ := num4_val t ht
  show val4 (_ :: _ :: _ :: _ :: l) = t
  unfold val4
  simp only []
  rw [h0, h1, h2, h3]
  omega
theorem num4_length (t : Nat) : (num4 t).length = 4 := rfl
theorem num4_val4 (l : List UInt8) (hl : l.length = 4) : num4 (val4 l) = l := by
  match l, hl with
  | [a, b, c, d], _ =>
    have ha := a.toNat_lt
    have hb := b.toNat_lt
    have hc := c.toNat_lt
    have hd := d.toNat_lt
    unfold num4 val4
    simp only []
    have e0 : UInt8.ofNat (a.toNat + 256 * b.toNat + 65536 * c.toNat + 16777216 * d.toNat) = a := UInt8.toNat_inj.1 (by rw [UInt8.toNat_ofNat']; omega)
    have e1 : UInt8.ofNat ((a.toNat + 256 * b.toNat + 65536 * c.toNat + 16777216 * d.toNat) / 256) = b := UInt8.toNat_inj.1 (by rw [UInt8.toNat_ofNat']; omega)
    have e2 : UInt8.ofNat ((a.toNat + 256 * b.toNat + 65536 * c.toNat + 16777216 * d.toNat) / 65536) = c := UInt8.toNat_inj.1 (by rw [UInt8.toNat_ofNat']; omega)
    have e3 : UInt8.ofNat ((a.toNat + 256 * b.toNat + 65536 * c.toNat + 16777216 * d.toNat) / 16777216) = d := UInt8.toNat_inj.1 (by rw [UInt8.toNat_ofNat']; omega)
    rw [e0, e1, e2, e3]

theorem frame_length (b : List UInt8) : (frame b).length = b.length + 8 := by
  unfold frame
  simp only [List.length_append, num4_length]
  omega

/-- what has the frame's head and length is read as the frame is, or its sum doesn't fit -/
theorem unfr_like (b g more : List UInt8) (hb : b.length ≤ 262144) (hl : g.length = b.length + 8) (hh : g.take 4 = num4 b.length) :
    unfr (g ++ more) = if val4 (g.drop (b.length + 4)) = crc (g.take (b.length + 4)) then ((g.drop 4).take b.length, b.length + 8, 0) else ([], 0, 21) := by
  have hv : val4 (g ++ more) = b.length := by
    have e : g ++ more = num4 b.length ++ (g.drop 4 ++ more) := by
      rw [← hh, ← List.append_assoc, List.take_append_drop]
    rw [e]
    exact val4_num4 _ (by omega) _
  have h1 : ∀ k, k ≤ g.length → (g ++ more).take k = g.take k := fun k hk => List.take_append_of_le_length hk
  have h2 : val4 ((g ++ more).drop (b.length + 4)) = val4 (g.drop (b.length + 4)) := by
    rw [List.drop_append_of_le_length (by omega)]
    have hl4 : (g.drop (b.length + 4)).length = 4 := by simp; omega
    rw [← num4_val4 _ hl4, val4_num4 _ (val4_lt _)]
    rw [num4_val4 _ hl4]
  unfold unfr
  rw [hv, if_neg (by simp; omega), if_neg (by omega), if_neg (by simp; omega), h2, h1 _ (by omega)]
  by_cases hc : val4 (g.drop (b.length + 4)) = crc (g.take (b.length + 4))
  · rw [if_neg (by simpa using hc), if_pos hc]
    congr 1
    rw [List.drop_append_of_le_length (by omega), List.take_append_of_le_length (by simp; omega)]
  · rw [if_pos hc, if_neg hc]

theorem frame_take4 (b : List UInt8) : (frame b).take 4 = num4 b.length := by
  unfold frame
  rw [List.append_assoc]
  exact List.take_left' (num4_length _)
theorem frame_fits (b : List UInt8) : crcF 4294967295 (frame b) = crcN 32 4294967295 := by
  have := (sum_fits (num4 b.length ++ b) (crc (num4 b.length ++ b)) (crc_lt _)).1 rfl
  exact this
/-- a sum fits just where the whole stands as it ought to -/
theorem fits_whole (b g : List UInt8) (hl : g.length = b.length + 8) : (val4 (g.drop (b.length + 4)) = crc (g.take (b.length + 4))) ↔ crcF 4294967295 g = crcN 32 4294967295 := by
  have hl4 : (g.drop (b.length + 4)).length = 4 := by simp; omega
  have h := sum_fits (g.take (b.length + 4)) (val4 (g.drop (b.length + 4))) (val4_lt _)
  rw [num4_val4 _ hl4, List.take_append_drop] at h
  exact h
theorem frame_back (b more : List UInt8) (hb : b.length ≤ 262144) : unfr (frame b ++ more) = (b, (frame b).length, 0) := by
  rw [unfr_like b (frame b) more hb (frame_length b) (frame_take4 b), if_pos ((fits_whole b _ (frame_length b)).2 (frame_fits b)), frame_length]
  congr 1
  unfold frame
  rw [List.append_assoc, List.drop_left' (num4_length _), List.take_left' rfl]

/-- a frame of which bits were turned: W tells which, from place 'at' on -/
structure Turned (b : List UInt8) (pl k : Nat) (g : List UInt8) (W : Nat) : Prop where
  len : g.length = b.length + 8
  head : g.take 4 = num4 b.length
  lt : W < 2 ^ k
  sum : crcF 4294967295 g = crcF 4294967295 (frame b) ^^^ crcN (8 * (b.length + 4) - pl) W
  same : W = 0 → g = frame b

theorem Turned.start (b : List UInt8) (pl : Nat) : Turned b pl 0 (frame b) 0 := by
  refine ⟨frame_length b, frame_take4 b, by decide, ?_, fun _ => rfl⟩
  have : ∀ n, crcN n 0 = 0 := by
    intro n
    induction n with
    | zero => rfl
    | succ n ih => show crcN n (crc1 0) = 0; exact ih
  rw [this, Nat.xor_zero]
theorem Turned.skip {b g : List UInt8} {pl k W : Nat} (h : Turned b pl k g W) : Turned b pl (k + 1) g W :=
  ⟨h.len, h.head, Nat.lt_of_lt_of_le h.lt (Nat.pow_le_pow_right (by decide) (by omega)), h.sum, h.same⟩
theorem xor_ne {W k : Nat} (h : W < 2 ^ k) : W ^^^ 2 ^ k ≠ 0 := by
  intro h0
  have : W = 2 ^ k := by
    have := congrArg (· ^^^ 2 ^ k) h0
    simp only [Nat.xor_assoc, Nat.xor_self, Nat.xor_zero, Nat.zero_xor] at this
    exact this
  omega
theorem Turned.turn {b g : List UInt8} {pl k W : Nat} (h : Turned b pl k g W) (hp : pl + k < 8 * (b.length + 4)) (x : UInt8) (hq : (32 + pl + k) / 8 < g.length) (hx : x.toNat = g[(32 + pl + k) / 8].toNat ^^^ 2 ^ ((32 + pl + k) % 8)) :
    Turned b pl (k + 1) (g.set ((32 + pl + k) / 8) x) (W ^^^ 2 ^ k) ∧ W ^^^ 2 ^ k ≠ 0 := by
  refine ⟨⟨by rw [List.length_set]; exact h.len, ?_, ?_, ?_, fun h0 => absurd h0 (xor_ne h.lt)⟩, xor_ne h.lt⟩
  · rw [List.take_set_of_le (by omega)]
    exact h.head
  · exact Nat.xor_lt_two_pow (n := k + 1) (Nat.lt_of_lt_of_le h.lt (Nat.pow_le_pow_right (by decide) (by omega))) (Nat.pow_lt_pow_right (by decide) (by omega))
  · rw [crcF_flip g _ _ x _ hq (Nat.mod_lt _ (by decide)) hx, h.sum, Nat.xor_assoc, crcN_xor]
    congr 2
    have e : 8 * g.length - (8 * ((32 + pl + k) / 8) + (32 + pl + k) % 8) = 8 * (b.length + 4) - pl - k := by rw [h.len]; omega
    rw [e, show 8 * (b.length + 4) - pl = k + (8 * (b.length + 4) - pl - k) by omega, crcN_add]
    have := crcN_shift k 1
    rw [Nat.mul_one] at this
    rw [this]
    congr 1
    omega
theorem Turned.told {b g : List UInt8} {pl W : Nat} (h : Turned b pl 32 g W) (hb : b.length ≤ 262144) (h0 : W ≠ 0) : unfr g = ([], 0, 21) := by
  have := unfr_like b g [] hb h.len h.head
  rw [List.append_nil] at this
  rw [this, if_neg]
  rw [fits_whole b g h.len, h.sum, frame_fits]
  intro e
  have h1 : crcN (8 * (b.length + 4) - pl) W = 0 := by
    have := congrArg (crcN 32 4294967295 ^^^ ·) e
    simp only [← Nat.xor_assoc, Nat.xor_self, Nat.zero_xor] at this
    exact this
  exact h0 (crcN_zero _ h1 h.lt)
end Go.Proofs.YtfgmbjdeimallaaGreatDoor
