/- Frames, plainly: what is framed comes back; bits that were turned within thirty-two of its payload or sum are told. -/
import Derived.Test.YtcebbgmjbincbaaDoorWn
namespace Go.Proofs.YtcebbgmjbincbaaDoor
open Go.RowKit Go.Lib

theorem val4_num4 (t : Nat) (ht : t < 4294967296) (l : List UInt8) : val4 (num4 t ++ l) = t := by
  obtain ⟨h0, h1, h2, h3⟩ := num4_val t ht
  show val4 (_ :: _ :: _ :: _ :: l) = t
  unfold val4
  simp only []
  rw [h0, h1, h2, h3]
  omega
theorem num4_length (t : Nat) : (num4 t).length = 4 := rfl
theorem num4_val4 (l : List UInt8) (hl : l.length = 4) : num4 (val4 l) = l := by
  match l, hl with
  | [a, b, c, d], _ =>
    have ha := a.toNat_lt
    have hb := b.toNat_lt
    have hc := c.toNat_lt
    have hd := d.toNat_lt
    unfold num4 val4
    simp only []
    have e0 : UInt8.ofNat (a.toNat + 256 * b.toNat + 65536 * c.toNat + 16777216 * d.toNat) = a := UInt8.toNat_inj.1 (by rw [UInt8.toNat_ofNat']; omega)
    have e1 : UInt8.ofNat ((a.toNat + 256 * b.toNat + 65536 * c.toNat + 16777216 * d.toNat) / 256) = b := UInt8.toNat_inj.1 (by rw [UInt8.toNat_ofNat']; omega)
    have e2 : UInt8.ofNat ((a.toNat + 256 * b.toNat + 65536 * c.toNat + 16777216 * d.toNat) / 65536) = c := UInt8.toNat_inj.1 (by rw [UInt8.toNat_ofNat']; omega)
    have e3 : UInt8.ofNat ((a.toNat + 256 * b.toNat + 65536 * c.toNat + 16777216 * d.toNat) / 16777216) = d := UInt8.toNat_inj.1 (by rw [UInt8.toNat_ofNat']; omega)
    rw [e0, e1, e2, e3]

theorem frame_length (b : List UInt8) : (frame b).length = b.length + 8 := by
  unfold frame
  simp only [List.length_append, num4_length]
  omega

/-- what has the frame's head and length is read as the frame is, or its sum doesn't fit -/
theorem unfr_like (b g more : List UInt8) (hb : b.length ≤ 262144) (hl : g.length = b.length + 8) (hh : g.take 4 = num4 b.length) :
    unfr (g ++ more) = if val4 (g.drop (b.length + 4)) = crc (g.take (b.length + 4)) then ((g.drop 4).take b.length, b.length + 8, 0) else ([], 0, 21) := by
  have hv : val4 (g ++ more) = b.length := by
    have e : g ++ more = num4 b.length ++ (g.drop 4 ++ more) := by
      rw [← hh, ← List.append_assoc, List.take_append_drop]
    rw [e]
    exact val4_num4 _ (by omega) _
  have h1 : ∀ k, k ≤ g.length → (g ++ more).take k = g.take k := fun k hk => List.take_append_of_le_length hk
  have h2 : val4 ((g ++ more).drop (b.length + 4)) = val4 (g.drop (b.length + 4)) := by
    rw [List.drop_append_of_le_length (by omega)]
    have hl4 : (g.drop (b.length + 4)).length = 4 := by simp; omega
    rw [← num4_val4 _ hl4, val4_num4 _ (val4_lt _)]
    rw [num4_val4 _ hl4]
  unfold unfr
  rw [hv, if_neg (by simp; omega), if_neg (by omega), if_neg (by simp; omega), h2, h1 _ (by omega)]
  by_cases hc : val4 (g.drop (b.length + 4)) = crc (g.take (b.length + 4))
  · rw [if_neg (by simpa using hc), if_pos hc]
    congr 1
    rw [List.drop_append_of_le_length (by omega), List.take_append_of_le_length (by simp; omega)]
  · rw [if_pos hc, if_neg hc]

theorem frame_take4 (b : List UInt8) : (frame b).take 4 = num4 b.length := by
  unfold frame
  rw [List.append_assoc]
  exact List.take_left' (num4_length _)
theorem frame_fits (b : List UInt8) : crcF 4294967295 (frame b) = crcN 32 4294967295 := by
  have := (sum_fits (num4 b.length ++ b) (crc (num4 b.length ++ b)) (crc_lt _)).1 rfl
  exact this
/-- a sum fits just where the whole stands as it ought to -/
theorem fits_whole (b g : List UInt8) (hl : g.length = b.length + 8) : (val4 (g.drop (b.length + 4)) = crc (g.take (b.length + 4))) ↔ crcF 4294967295 g = crcN 32 4294967295 := by
  have hl4 : (g.drop (b.length + 4)).length = 4 := by simp; omega
  have h := sum_fits (g.take (b.length + 4)) (val4 (g.drop (b.length + 4))) (val4_lt _)
  rw [num4_val4 _ hl4, List.take_append_drop] at h
  exact h
theorem frame_back (b more : List UInt8) (hb : b.length ≤ 262144) : unfr (frame b ++ more) = (b, (frame b).length, 0) := by
  rw [unfr_like b (frame b) more hb (frame_length b) (frame_take4 b), if_pos ((fits_whole b _ (frame_length b)).2 (frame_fits b)), frame_length]
  congr 1
  unfold frame
  rw [List.append_assoc, List.drop_left' (num4_length _), List.take_left' rfl]

/-- a frame of which bits were turned: W tells which, from place 'at' on -/
structure Turned (b : List UInt8) (pl k : Nat) (g : List UInt8) (W : Nat) : Prop where
  len : g.length = b.length + 8
  head : g.take 4 = num4 b.length
  lt : W < 2 ^ k
  sum : crcF 4294967295 g = crcF 4294967295 (frame b) ^^^ crcN (8 * (b.length + 4) - pl) W
  same : W = 0 → g = frame b

theorem Turned.start (b : List UInt8) (pl : Nat) : Turned b pl 0 (frame b) 0 := by
  refine ⟨frame_length b, frame_take4 b, by decide, ?_, fun _ => rfl⟩
  have : ∀ n, crcN n 0 = 0 := by
    intro n
    induction n with
    | zero => rfl
    | succ n ih => show crcN n (crc1 0) = 0; exact ih
  rw [this, Nat.xor_zero]
theorem Turned.skip {b g : List UInt8} {pl k W : Nat} (h : Turned b pl k g W) : Turned b pl (k + 1) g W :=
  ⟨h.len, h.head, Nat.lt_of_lt_of_le h.lt (Nat.pow_le_pow_right (by decide) (by omega)), h.sum, h.same⟩
theorem xor_ne {W k : Nat} (h : W < 2 ^ k) : W ^^^ 2 ^ k ≠ 0 := by
  intro h0
  have : W = 2 ^ k := by
    have := congrArg (· ^^^ 2 ^ k) h0
    simp only [Nat.xor_assoc, Nat.xor_self, Nat.xor_zero, Nat.zero_xor] at this
    exact this
  omega
theorem Turned.turn {b g : List UInt8} {pl k W : Nat} (h : Turned b pl k g W) (hp : pl + k < 8 * (b.length + 4)) (x : UInt8) (hq : (32 + pl + k) / 8 < g.length) (hx : x.toNat = g[(32 + pl + k) / 8].toNat ^^^ 2 ^ ((32 + pl + k) % 8)) :
    Turned b pl (k + 1) (g.set ((32 + pl + k) / 8) x) (W ^^^ 2 ^ k) ∧ W ^^^ 2 ^ k ≠ 0 := by
  refine ⟨⟨by rw [List.length_set]; exact h.len, ?_, ?_, ?_, fun h0 => absurd h0 (xor_ne h.lt)⟩, xor_ne h.lt⟩
  · rw [List.take_set_of_le (by omega)]
    exact h.head
  · exact Nat.xor_lt_two_pow (n := k + 1) (Nat.lt_of_lt_of_le h.lt (Nat.pow_le_pow_right (by decide) (by omega))) (Nat.pow_lt_pow_right (by decide) (by omega))
  · rw [crcF_flip g _ _ x _ hq (Nat.mod_lt _ (by decide)) hx, h.sum, Nat.xor_assoc, crcN_xor]
    congr 2
    have e : 8 * g.length - (8 * ((32 + pl + k) / 8) + (32 + pl + k) % 8) = 8 * (b.length + 4) - pl - k := by rw [h.len]; omega
    rw [e, show 8 * (b.length + 4) - pl = k + (8 * (b.length + 4) - pl - k) by omega, crcN_add]
    have := crcN_shift k 1
    rw [Nat.mul_one] at this
    rw [this]
    congr 1
    omega
theorem Turned.told {b g : List UInt8} {pl W : Nat} (h : Turned b pl 32 g W) (hb : b.length ≤ 262144) (h0 : W ≠ 0) : unfr g = ([], 0, 21) := by
  have := unfr_like b g [] hb h.len h.head
  rw [List.append_nil] at this
  rw [this, if_neg]
  rw [fits_whole b g h.len, h.sum, frame_fits]
  intro e
  have h1 : crcN (8 * (b.length + 4) - pl) W = 0 := by
    have := congrArg (crcN 32 4294967295 ^^^ ·) e
    simp only [← Nat.xor_assoc, Nat.xor_self, Nat.zero_xor] at this
    exact this
  exact h0 (crcN_zero _ h1 h.lt)
end Go.Proofs.YtcebbgmjbincbaaDoor
