/- TreeOne: the walk. -/
import Derived.Test.YthibgaagfdgmmaaTr29
import Derived.Test.YthibgaagfdgmmaaTrM

namespace Go.Proofs.Ythibgaagfdgmmaa
open Go.RowKit Go.Lib

def u16s (ks : List Nat) : List Value := ks.map fun k => .int .u16 (k : Nat)
@[simp] theorem u16s_length (ks : List Nat) : (u16s ks).length = ks.length := by simp [u16s]
/-- nodes lie in any block but these two -/
def Off (a b : Nat) : Nat → Prop := fun x => x ≠ a ∧ x ≠ b
theorem TreeAt.off {w w0 : World} {a b t : Nat} {l : List KV} (h : TreeAt w (Grown (Off a b) w0) t l) (ha : a < w0.heap.size) (hb : b < w0.heap.size) (ht : t = a ∨ t = b) : TreeAt w (Off a b) t l := by
  refine h.mono (fun x hx _ => ?_) (fun h => by rcases ht with e | e; exact h.1 e; exact h.2 e)
  rcases hx with hx | hx
  · exact hx
  · exact ⟨by omega, by omega⟩

theorem enc_low (k : Nat) : (enc (num k, low k)).length ≤ 23 := by
  have h1 := uvarint_length64 (x := 2) (by omega)
  have h2 := uvarint_length64 (x := 1) (by omega)
  simp [enc, tx, textB, low]
  omega
theorem dump_len {n c : Nat} {l1 : List KV} (h : ∀ p ∈ l1, (enc p).length ≤ c) (hn : n < 18446744073709551616) : (outB n l1).length ≤ 10 + l1.length * c := by
  have h1 := uvarint_length64 hn
  have h2 : ((l1.map enc).flatten).length ≤ l1.length * c := by
    induction l1 with
    | nil => simp
    | cons p l ih =>
      have := ih fun q hq => h q (List.mem_cons_of_mem _ hq)
      have := h p List.mem_cons_self
      simp only [List.map_cons, List.flatten_cons, List.length_append, List.length_cons]
      rw [Nat.succ_mul]
      omega
  unfold outB
  rw [List.length_append]
  omega

set_option maxRecDepth 100000 in
set_option maxHeartbeats 8000000 in
theorem one_any (ao : Option Addr) (kc : Nat) (ks : List Nat) (ex : Nat) (w : World) (hks : ∀ k ∈ ks, k < 65536) (hex : ex < 256) (hS : Sl w 1 ao ks.length kc (u16s ks)) :
    Calls Try.prog 4 #[.slice ao ks.length kc, .int .u8 ex] w fun e w' => e = .returned (.bool true) ∧ Keeps [] w w' := by
  obtain ⟨iB, z, hi, hz, hsz, hby, hzc⟩ := infoB
  go_enter Try.func4, Try.ntmps4
  go_wp2_with fail
  refine (known_any w).mono ?_
  rintro e w1 ⟨rfl, hk1⟩
  by_cases h200 : 200 < ks.length
  · have n1 : (200 : Int) < (ks.length : Int) := by omega
    go_wp2_with fail
    go_ret
    exact ⟨rfl, hk1⟩
  have n1 : ¬ ((200 : Int) < (ks.length : Int)) := by omega
  go_wp2_with fail
  refine (tnew w1).mono ?_
  rintro e w2 ⟨ta, rfl, hta, hTa, hk2⟩
  go_wp2_with fail
  refine (tnew w2).mono ?_
  rintro e w3 ⟨tb, rfl, htb, hTb, hk3⟩
  have hk03 := (hk1.trans hk2).trans hk3
  have l1 := hTa.lt
  have l2 := hTb.lt
  have hA : TreeAt w3 (Off ta tb) ta [] := (hTa.mono (F' := Off ta tb) (fun x hx hlt => ⟨hx.2, by omega⟩) (fun h => h.1 rfl)).keep0 hk3
  have hB : TreeAt w3 (Off ta tb) tb [] := hTb.mono (fun x hx hlt => ⟨by omega, hx.2⟩) (fun h => h.2 rfl)
  have hab : ta < tb := by omega
  have hwa : w.heap.size ≤ ta := Nat.le_trans hk1.size hta
  have HS := Lib.hid (And.intro hA (And.intro hB hk03))
  clear hA hB hk03 hTa hTb hk1 hk2 hk3 hta htb
  go_wp2_with fail
  go_loopw [8] (fun v wr => ∃ (i : Nat) (la : List KV), v = .int .i64 (i : Int) ∧ i ≤ ks.length ∧ AInv (ks.take i) la ∧ la.length ≤ i ∧ TreeAt wr (Off ta tb) ta la ∧ TreeAt wr (Off ta tb) tb [] ∧ Keeps [] w wr) (fun v _ => ks.length - (intOf v).toNat)
  case atStart => exact ⟨0, [], rfl, by omega, AInv.nil, by simp, HS.out.1, HS.out.2.1, HS.out.2.2⟩
  case round =>
    clear HS
    obtain ⟨i, la, rfl, hin, hA, hll, hTa, hTb, hkr⟩ := hrel
    rcases (by omega : i = ks.length ∨ i < ks.length) with hie | hil
    · obtain rfl := hie
      rw [List.take_length] at hA
      have n2 : ¬ ((ks.length : Int) < (ks.length : Int)) := by omega
      have HA := Lib.hid hA
      have HLL := Lib.hid hll
      have HSB := Lib.hid (And.intro hTa (And.intro hTb hkr))
      have la1 := hTa.lt
      have lb1 := hTb.lt
      clear hA hll hTa hTb hkr
      go_wp2_with fail
      clear la1 lb1
      go_loopw [9] (fun v wr => ∃ (i : Nat) (lb : List KV), v = .int .i64 (i : Int) ∧ i ≤ ks.length ∧ BInv (ks.drop (ks.length - i)) ks lb ∧ lb.length ≤ 2 * i ∧ TreeAt wr (Off ta tb) ta la ∧ TreeAt wr (Off ta tb) tb lb ∧ Keeps [] w wr) (fun v _ => ks.length - (intOf v).toNat)
      case atStart => exact ⟨0, [], rfl, by omega, by rw [Nat.sub_zero, List.drop_length]; exact BInv.nil ks, by simp, HSB.out.1, HSB.out.2.1, HSB.out.2.2⟩
      case round =>
        clear HSB
        obtain ⟨i, lb, rfl, hin, hBI, hll, hTa, hTb, hkr⟩ := hrel
        have HBI := Lib.hid hBI
        clear hBI
        rcases (by omega : i = ks.length ∨ i < ks.length) with hie | hil
        · obtain rfl := hie
          have n3 : ¬ ((ks.length : Int) < (ks.length : Int)) := by omega
          have HS3 := Lib.hid (And.intro hTa (And.intro hTb hkr))
          have HB3 := Lib.hid (show BInv ks (ks.drop 0) lb from by have := HBI.out; rw [Nat.sub_self] at this; exact this)
          have HL3 := Lib.hid hll
          clear hTa hTb hkr HBI hll
          go_wp2_with fail
          go_loopw [11] (fun v wr => ∃ (i : Nat) (lb : List KV), v = .int .i64 (i : Int) ∧ i ≤ ks.length ∧ BInv ks (ks.drop i) lb ∧ lb.length ≤ 2 * ks.length ∧ TreeAt wr (Off ta tb) ta la ∧ TreeAt wr (Off ta tb) tb lb ∧ Keeps [] w wr) (fun v _ => ks.length - (intOf v).toNat)
          case atStart => exact ⟨0, lb, rfl, by omega, HB3.out, HL3.out, HS3.out.1, HS3.out.2.1, HS3.out.2.2⟩
          case round =>
            clear HS3 HB3 HL3
            obtain ⟨i, lb, rfl, hin, hBI, hll, hTa, hTb, hkr⟩ := hrel
            have HBI := Lib.hid hBI
            clear hBI
            rcases (by omega : i = ks.length ∨ i < ks.length) with hie | hil
            · obtain rfl := hie
              have hB0 := HBI.out
              rw [List.drop_length] at hB0
              obtain rfl := one_list HA.out hB0 hTa.srt hTb.srt
              have hdl := dump_len (n := la.length) (l1 := la) (c := 23) (fun p hp => by
                obtain ⟨k, _, rfl⟩ := HA.out.1 p hp
                exact enc_low k) (by omega)
              rw [outB_dump] at hdl
              clear hB0 HBI
              go_wp2_with fail
              refine (tlen hTa).mono ?_
              rintro e w4 ⟨rfl, hw⟩
              obtain rfl := hw.symm
              go_wp2_with fail
              refine (tlen hTb).mono ?_
              rintro e w4 ⟨rfl, hw⟩
              obtain rfl := hw.symm
              go_wp2_with fail
              refine (tdump hTa (by omega)).mono ?_
              rintro e w5 ⟨a1, c1, rfl, hD1, hk5⟩
              go_wp2_with fail
              refine (tdump (hTb.keep0 hk5) (by omega)).mono ?_
              rintro e w6 ⟨a2, c2, rfl, hD2, hk6⟩
              go_wp2_with fail
              refine (bytes_any a1 a2 c1 c2 _ _ w6 (hD1.rb.keep0 hk6) hD2.rb).mono ?_
              rintro e w7 ⟨rfl, hw⟩
              obtain rfl := hw.symm
              rw [beq_self_eq_true]
              go_wp2_with fail
              go_ret
              exact ⟨rfl, (hkr.trans hk5).trans hk6⟩
            · have n4 : (i : Int) < (ks.length : Int) := by omega
              have p0 : (0 : Int) ≤ (i : Int) := by omega
              obtain ⟨k, hk⟩ : ∃ k, ks[i]? = some k := ⟨_, List.getElem?_eq_getElem hil⟩
              have hk6 := hks k (List.mem_of_getElem? hk)
              have hcap := hS.cap
              obtain ⟨kb, ko, rfl⟩ := hS.at (by omega)
              have ck : wr.cell? ⟨kb, ko + i, none⟩ = some (.int .u16 (k : Nat)) := by
                have := (hS.keep0 hkr).cells rfl i (.int .u16 (k : Nat)) (by simp [u16s, hk])
                rwa [addr_add rfl] at this
              have HK := Lib.hid hk
              have la1 := hTa.lt
              have lb1 := hTb.lt
              clear hk
              go_wp2_with fail
              refine (number_any k wr hk6).mono ?_
              rintro e w4 ⟨nb, rfl, hnb, hO, hk4⟩
              have hs4 := hk4.size
              have hOa := hO.keep0 ((Keeps.refl [] w4).alloc (.cells #[.int .u8 120] 5))
              go_wp2_with (at_builtin; refine wpList_append_by _ rfl _ _ 29 29 rfl (wr.heap.size) 5 iB z 1 1 Try.underlying29 hi hz hsz hby hzc ((some ⟨nb, 0, none⟩)) _ (2) _ rfl hOa _ rfl 1 _ ((rb1 (x := 120) (Blk.fresh w4 _ _)).src Try.underlying29) (by decide) (by decide) (by simp; omega) ?_; intro ao5 c5 w5 hO5 hk5 hb5)
              have hOx : Own w5 wr.heap.size ao5 c5 (numx k) := Own.of hO5 (bys_append (num k) [120]).symm
              have hk05 : Keeps [] wr w5 := (hk4.alloc (.cells #[.int .u8 120] 5)).step hk5 (fun x hx => .inr (by simp at hx; omega))
              have hs5 := hk05.size
              refine (tdel (k := numx k) (hTb.keep0 hk05) hOx.rb (by omega)).mono ?_
              rintro e w6 ⟨rfl, hTb6, hk6'⟩
              have hTbn := hTb6.off (by omega) (by omega) (.inr rfl)
              go_wp2_with fail
              go_roundw
              case rel =>
                refine ⟨i + 1, del (numx k) lb, by simp, by omega, ?_, ?_, (hTa.keep0 hk05).keep hk6' (fun x hx => by simp at hx; subst hx; exact ⟨fun h => h.2 rfl, by omega⟩), hTbn, (hkr.trans hk05).step hk6' (fun x hx => .inr (by simp at hx; omega))⟩
                · have e : ks.drop i = k :: ks.drop (i + 1) := by
                    obtain ⟨h1, h2⟩ := List.getElem?_eq_some_iff.1 HK.out
                    rw [List.drop_eq_getElem_cons h1, h2]
                  have := HBI.out
                  rw [e] at this
                  exact this.del
                · rw [del_len hTb.srt]
                  split <;> omega
              case measure => simp [intOf]; omega
        · have n3 : (i : Int) < (ks.length : Int) := by omega
          obtain ⟨j, hj⟩ : ∃ j, j = ks.length - 1 - i := ⟨_, rfl⟩
          have q1 : IntKind.i64.wrap ((ks.length : Int) - 1) = (ks.length : Int) - 1 := IntWalk.i64_in _ (by omega)
          have q2 : IntKind.i64.wrap ((ks.length : Int) - 1 - (i : Int)) = (j : Int) := by rw [IntWalk.i64_in _ (by omega)]; omega
          have p0 : (0 : Int) ≤ (j : Int) := by omega
          have p1 : (j : Int) < (ks.length : Int) := by omega
          have hjl : j < ks.length := by omega
          obtain ⟨k, hk⟩ : ∃ k, ks[j]? = some k := ⟨_, List.getElem?_eq_getElem hjl⟩
          have hk6 := hks k (List.mem_of_getElem? hk)
          have hcap := hS.cap
          obtain ⟨kb, ko, rfl⟩ := hS.at (by omega)
          have ck : wr.cell? ⟨kb, ko + j, none⟩ = some (.int .u16 (k : Nat)) := by
            have := (hS.keep0 hkr).cells rfl j (.int .u16 (k : Nat)) (by simp [u16s, hk])
            rwa [addr_add rfl] at this
          have HK := Lib.hid (And.intro hk hj)
          have la1 := hTa.lt
          have lb1 := hTb.lt
          clear hk hj
          have htb0 : w.heap.size ≤ tb := by omega
          cases hrem : ((i : Int) % ((ex : Int) % 7 + 1) == 0)
          rotate_left
          · go_wp2_with fail
            clear hrem
            refine (number_any k wr hk6).mono ?_
            rintro e w4 ⟨nb, rfl, hnb, hO, hk4⟩
            have hs4 := hk4.size
            have cv := fun W : World => conv_at W #[.int .u8 121] 1 1 W.heap.size rfl
            have hOa := hO.keep0 ((Keeps.refl [] w4).alloc (.cells #[.int .u8 120] 5))
            go_wp2_with (at_builtin; refine wpList_append_by _ rfl _ _ 29 29 rfl (wr.heap.size) 5 iB z 1 1 Try.underlying29 hi hz hsz hby hzc ((some ⟨nb, 0, none⟩)) _ (2) _ rfl hOa _ rfl 1 _ ((rb1 (x := 120) (Blk.fresh w4 _ _)).src Try.underlying29) (by decide) (by decide) (by simp; omega) ?_; intro ao5 c5 w5 hO5 hk5 hb5)
            clear cv
            have hOx : Own w5 wr.heap.size ao5 c5 (numx k) := Own.of hO5 (bys_append (num k) [120]).symm
            have hk05 : Keeps [] wr w5 := (hk4.alloc (.cells #[.int .u8 120] 5)).step hk5 (fun x hx => .inr (by simp at hx; omega))
            have kM := (Keeps.refl [] w5).alloc (.cells #[.int .u8 121] 5 (1, 2))
            refine (tput (k := numx k) (v := [121]) ((hTb.keep0 hk05).keep0 kM) (hOx.rb.keep0 kM) (rb_mk w5 [121] (1, 2) _ rfl (by decide)) (by simp [numx]) (by simp) (by omega)).mono ?_
            rintro e w6 ⟨rfl, hTb6, hk56⟩
            have hs5 := hk05.size
            have hTbn := hTb6.off (by simp; omega) (by simp; omega) (.inr rfl)
            have hTan := ((hTa.keep0 hk05).keep0 kM).keep hk56 (fun x hx => by simp at hx; subst hx; exact ⟨fun h => h.2 rfl, by omega⟩)
            have hkn := ((hkr.trans hk05).trans kM).step hk56 (fun x hx => .inr (by simp at hx; omega))
            have hln : (ins (numx k) [121] lb).length ≤ 2 * i + 1 := by
              rw [ins_len hTb.srt]
              split <;> omega
            have HBN := Lib.hid (HBI.out.x (List.mem_of_getElem? HK.out.1) [121])
            clear hO hOa hO5 hk5 hb5 hOx kM hTb6 hk56 hTb hTa hkr hk4 hk05 ck hll HBI hs4 hs5
            generalize hlbn : ins (numx k) [121] lb = lbn at *
            clear hlbn
            have la1 := hTan.lt
            have lb1 := hTbn.lt
            go_wp2_with fail
            refine (number_any k w6 hk6).mono ?_
            rintro e w7 ⟨nb7, rfl, _, hO7, hk7⟩
            have cv := conv_at w7 #[.int .u8 111, .int .u8 108, .int .u8 100] 3 3 w7.heap.size rfl
            go_wp2_with fail
            clear cv
            have hs7 := hk7.size
            have kM7 := (Keeps.refl [] w7).alloc (.cells #[.int .u8 111, .int .u8 108, .int .u8 100] 5 (3, 4))
            refine (tput (k := num k) (v := [111, 108, 100]) ((hTbn.keep0 hk7).keep0 kM7) (hO7.rb.keep0 kM7) (rb_mk w7 [111, 108, 100] (3, 4) _ rfl (by decide)) (by simp) (by simp) (by omega)).mono ?_
            rintro e w8 ⟨rfl, hTb8, hk8⟩
            replace hTb8 := hTb8.off (by simp; omega) (by simp; omega) (.inr rfl)
            have hTa8 := ((hTan.keep0 hk7).keep0 kM7).keep hk8 (fun x hx => by simp at hx; subst hx; exact ⟨fun h => h.2 rfl, by omega⟩)
            have hkr8 := ((hkn.trans hk7).trans kM7).step hk8 (fun x hx => .inr (by simp at hx; omega))
            have hl8 : (ins (num k) [111, 108, 100] lbn).length ≤ lbn.length + 1 := by
              rw [ins_len hTbn.srt]
              split <;> omega
            have ta8 := hTa8.lt
            have tb8 := hTb8.lt
            clear hO7 hk8 kM7
            go_wp2_with fail
            refine (number_any k w8 hk6).mono ?_
            rintro e w9 ⟨nb9, rfl, _, hO9, hk9⟩
            go_wp2_with fail
            have hs9 := hk9.size
            have kM9 := (Keeps.refl [] w9).alloc (.cells #[.int .u8 ((k : Int) % 256)] 5)
            refine (tput (k := num k) (v := low k) ((hTb8.keep0 hk9).keep0 kM9) (hO9.rb.keep0 kM9) (rb_mod k (Blk.fresh w9 5 _)) (by simp) (by simp [low]) (by omega)).mono ?_
            rintro e w10 ⟨rfl, hTb10, hk10⟩
            go_wp2_with fail
            go_roundw
            case rel =>
              refine ⟨i + 1, ins (num k) (low k) (ins (num k) [111, 108, 100] lbn), by simp, by omega, ?_, ?_, ((hTa8.keep0 hk9).keep0 kM9).keep hk10 (fun x hx => by simp at hx; subst hx; exact ⟨fun h => h.2 rfl, by omega⟩), hTb10.off (by simp; omega) (by simp; omega) (.inr rfl), ((hkr8.trans hk9).trans kM9).step hk10 (fun x hx => .inr (by simp at hx; omega))⟩
              · have hj := HK.out.2
                rw [drop_back (k := k) (by rw [← hj]; exact HK.out.1) (by omega)]
                exact HBN.out.put (fun j hj => hks j (List.mem_of_mem_drop hj)) hk6 _
              · rw [ins_len hTb8.srt, if_pos (has_iff.2 ⟨(num k, [111, 108, 100]), mem_ins.2 (.inl rfl), rfl⟩)]
                omega
            case measure => simp [intOf]; omega
          · go_wp2_with fail
            clear ck hrem
            refine (number_any k wr hk6).mono ?_
            rintro e w7 ⟨nb7, rfl, _, hO7, hk7⟩
            have cv := conv_at w7 #[.int .u8 111, .int .u8 108, .int .u8 100] 3 3 w7.heap.size rfl
            go_wp2_with fail
            clear cv
            have hs7 := hk7.size
            have kM7 := (Keeps.refl [] w7).alloc (.cells #[.int .u8 111, .int .u8 108, .int .u8 100] 5 (3, 4))
            refine (tput (k := num k) (v := [111, 108, 100]) ((hTb.keep0 hk7).keep0 kM7) (hO7.rb.keep0 kM7) (rb_mk w7 [111, 108, 100] (3, 4) _ rfl (by decide)) (by simp) (by simp) (by omega)).mono ?_
            rintro e w8 ⟨rfl, hTb8, hk8⟩
            replace hTb8 := hTb8.off (by simp; omega) (by simp; omega) (.inr rfl)
            have hTa8 := ((hTa.keep0 hk7).keep0 kM7).keep hk8 (fun x hx => by simp at hx; subst hx; exact ⟨fun h => h.2 rfl, by omega⟩)
            have hkr8 := ((hkr.trans hk7).trans kM7).step hk8 (fun x hx => .inr (by simp at hx; omega))
            have hl8 : (ins (num k) [111, 108, 100] lb).length ≤ lb.length + 1 := by
              rw [ins_len hTb.srt]
              split <;> omega
            have ta8 := hTa8.lt
            have tb8 := hTb8.lt
            clear hO7 hk8 kM7
            go_wp2_with fail
            refine (number_any k w8 hk6).mono ?_
            rintro e w9 ⟨nb9, rfl, _, hO9, hk9⟩
            go_wp2_with fail
            have hs9 := hk9.size
            have kM9 := (Keeps.refl [] w9).alloc (.cells #[.int .u8 ((k : Int) % 256)] 5)
            refine (tput (k := num k) (v := low k) ((hTb8.keep0 hk9).keep0 kM9) (hO9.rb.keep0 kM9) (rb_mod k (Blk.fresh w9 5 _)) (by simp) (by simp [low]) (by omega)).mono ?_
            rintro e w10 ⟨rfl, hTb10, hk10⟩
            go_wp2_with fail
            go_roundw
            case rel =>
              refine ⟨i + 1, ins (num k) (low k) (ins (num k) [111, 108, 100] lb), by simp, by omega, ?_, ?_, ((hTa8.keep0 hk9).keep0 kM9).keep hk10 (fun x hx => by simp at hx; subst hx; exact ⟨fun h => h.2 rfl, by omega⟩), hTb10.off (by simp; omega) (by simp; omega) (.inr rfl), ((hkr8.trans hk9).trans kM9).step hk10 (fun x hx => .inr (by simp at hx; omega))⟩
              · have hj := HK.out.2
                rw [drop_back (k := k) (by rw [← hj]; exact HK.out.1) (by omega)]
                exact HBI.out.put (fun j hj => hks j (List.mem_of_mem_drop hj)) hk6 _
              · rw [ins_len hTb8.srt, if_pos (has_iff.2 ⟨(num k, [111, 108, 100]), mem_ins.2 (.inl rfl), rfl⟩)]
                omega
            case measure => simp [intOf]; omega
    · have n2 : (i : Int) < (ks.length : Int) := by omega
      have p0 : (0 : Int) ≤ (i : Int) := by omega
      obtain ⟨k, hk⟩ : ∃ k, ks[i]? = some k := ⟨_, List.getElem?_eq_getElem hil⟩
      have hk6 := hks k (List.mem_of_getElem? hk)
      have hcap := hS.cap
      obtain ⟨kb, ko, rfl⟩ := hS.at (by omega)
      have ck : wr.cell? ⟨kb, ko + i, none⟩ = some (.int .u16 (k : Nat)) := by
        have := (hS.keep0 hkr).cells rfl i (.int .u16 (k : Nat)) (by simp [u16s, hk])
        rwa [addr_add rfl] at this
      have hkbl : kb < w.heap.size := hS.lt rfl (fun h => by have := congrArg List.length h; rw [u16s_length, List.length_nil] at this; omega)
      have HK := Lib.hid hk
      have HA := Lib.hid hA
      have la1 := hTa.lt
      have lb1 := hTb.lt
      clear hk hA
      go_upto_region 10 with (fail)
      have HR0 : (∀ W : World, Keeps [ta] wr W → ∀ q ∈ [((4 : Nat), fun w0 : World => w0.cell? ⟨kb, ko + i, none⟩ = some (.int .u16 (k : Nat))), ((9 : Nat), fun w0 : World => w0.cell? ⟨kb, ko + i, none⟩ = some (.int .u16 (k : Nat)))], q.2 W) := fun W hW => rds2 (hW.cellSome ck (by simp; omega)) (hW.cellSome ck (by simp; omega))
      have hkd := (Keeps.refl [] wr).drew
      have hSw := HR0 _ hkd.of_nil
      have HR := Lib.hid HR0
      clear HR0 ck
      refine startU [((4 : Nat), fun w0 : World => w0.cell? ⟨kb, ko + i, none⟩ = some (.int .u16 (k : Nat))), ((9 : Nat), fun w0 : World => w0.cell? ⟨kb, ko + i, none⟩ = some (.int .u16 (k : Nat)))] (by kernel_rfl) ?_
      generalize wr.drew = w5 at *
      refine takeU (i := 0) (v := ?_) rfl (by kernel_rfl) (fun _ _ _ h => h) (Or.inl ⟨by rfl, fun w0 hw0 => ?_⟩) (fun p hp _ => hSw p hp) ?_
      rotate_left
      · simp [Reads] at hw0
        go_simp
        try with_reducible rfl
      try go_simp
      refine takeU (i := 1) (v := ?_) rfl (by kernel_rfl) (fun _ _ _ h => h) (Or.inl ⟨by rfl, fun w0 hw0 => ?_⟩) (fun p hp _ => hSw p hp) ?_
      rotate_left
      · simp [Reads] at hw0
        go_simp
        try with_reducible rfl
      try go_simp
      refine takeU (i := 2) (v := ?_) rfl (by kernel_rfl) (fun _ _ _ h => h) (Or.inl ⟨by rfl, fun w0 hw0 => ?_⟩) (fun p hp _ => hSw p hp) ?_
      rotate_left
      · simp [Reads] at hw0
        go_simp
        try with_reducible rfl
      try go_simp
      refine takeU (i := 3) (v := ?_) rfl (by kernel_rfl) (fun _ _ _ h => h) (Or.inl ⟨by rfl, fun w0 hw0 => ?_⟩) (fun p hp _ => hSw p hp) ?_
      rotate_left
      · simp [Reads] at hw0
        go_simp
        try with_reducible rfl
      try go_simp
      refine takeU (i := 4) (v := ?_) rfl (by kernel_rfl) (fun _ _ _ h => h) (Or.inl ⟨by rfl, fun w0 hw0 => ?_⟩) (fun p hp _ => hSw p hp) ?_
      rotate_left
      · simp [Reads] at hw0
        go_simp
        try with_reducible rfl
      try go_simp
      refine takeU (i := 6) (v := ?_) rfl (by kernel_rfl) (fun _ _ _ h => h) (Or.inl ⟨by rfl, fun w0 hw0 => ?_⟩) (fun p hp _ => hSw p hp) ?_
      rotate_left
      · simp [Reads] at hw0
        go_simp
        try with_reducible rfl
      try go_simp
      refine takeU (i := 7) (v := ?_) rfl (by kernel_rfl) (fun _ _ _ h => h) (Or.inl ⟨by rfl, fun w0 hw0 => ?_⟩) (fun p hp _ => hSw p hp) ?_
      rotate_left
      · simp [Reads] at hw0
        go_simp
        try with_reducible rfl
      try go_simp
      refine takeU (i := 8) (v := ?_) rfl (by kernel_rfl) (fun _ _ _ h => h) (Or.inl ⟨by rfl, fun w0 hw0 => ?_⟩) (fun p hp _ => hSw p hp) ?_
      rotate_left
      · simp [Reads] at hw0
        go_simp
        try with_reducible rfl
      try go_simp
      refine takeU (i := 9) (v := ?_) rfl (by kernel_rfl) (fun _ _ _ h => h) (Or.inl ⟨by rfl, fun w0 hw0 => ?_⟩) (fun p hp _ => hSw p hp) ?_
      rotate_left
      · simp [Reads] at hw0
        go_simp
        try with_reducible rfl
      try go_simp
      refine takeU (i := 10) (v := ?_) rfl (by kernel_rfl) (fun _ _ _ h => h) (Or.inl ⟨by rfl, fun w0 hw0 => ?_⟩) (fun p hp _ => hSw p hp) ?_
      rotate_left
      · simp [Reads] at hw0
        go_simp
        try with_reducible rfl
      try go_simp
      clear hSw
      refine twoU (i := 5) (j := 11) rfl rfl (by kernel_rfl) (fun K hK => ?_) (fun K hK => ?_)
      · rw [if_pos (show Region.wanted _ _ = true from rfl)]
        go_wp2_with fail
        refine (number_any k w5 hk6).mono ?_
        rintro e w6 ⟨nb, rfl, hnb, hO, hk5⟩
        have hk56 := hkd.trans hk5
        simp only []
        refine hK _ _ (fun q hq _ _ => HR.out _ hk56.of_nil q hq) ?_
        clear hK K
        try go_simp
        refine oneU (i := 11) rfl (by kernel_rfl) (fun K hK => ?_)
        go_simp
        refine hK _ _ (fun q hq _ _ => HR.out _ (hk56.alloc _).of_nil q hq) ?_
        clear hK K
        try go_simp
        have hkW := hk56.alloc (.cells #[.int .u8 ((k : Int) % 256)] 5)
        have hV : Rb _ _ 1 (low k) := rb_mod k (Blk.fresh w6 5 #[.int .u8 ((k : Int) % 256)])
        replace hO := hO.keep0 ((Keeps.refl [] w6).alloc (.cells #[.int .u8 ((k : Int) % 256)] 5))
        generalize World.alloc w6 _ = w7 at *
        generalize w6.heap.size = vb at *
        refine oneU (i := 12) rfl (by kernel_rfl) (fun K hK => ?_)
        rw [if_pos (show Region.wanted _ _ = true from rfl)]
        go_wp2_with fail
        have hrl := hkr.trans hkW.of_nil
        have hsW := hkW.size
        refine (tput (k := num k) (v := low k) (hTa.keep0 hkW) hO.rb hV (by simp) (by simp [low]) (by omega)).mono ?_
        rintro e w8 ⟨rfl, hTa8, hk8⟩
        have hkr8 := hkW.of_nil.trans hk8
        simp only []
        refine hK _ _ (fun q hq _ _ => HR.out _ hkr8 q hq) ?_
        clear hK K
        try go_simp
        refine doneU (by kernel_rfl) ?_
        go_wp2_with fail
        go_roundw
        case rel =>
          have hlen := ins_len (k := num k) hTa.srt (low k)
          refine ⟨i + 1, ins (num k) (low k) la, by simp, by omega, ?_, ?_, hTa8.off (by omega) (by omega) (.inl rfl), (hTb.keep0 hkW).keep hk8 (fun x hx => by simp at hx; subst hx; exact ⟨fun h => h.1 rfl, by omega⟩), hrl.step hk8 (fun x hx => .inr (by simp at hx; omega))⟩
          · have e : ks.take (i + 1) = ks.take i ++ [k] := by
              rw [List.take_add_one, HK.out]
              rfl
            rw [e]
            exact HA.out.put (fun j hj => hks j (List.mem_of_mem_take hj)) hk6
          · rw [hlen]
            split <;> omega
        case measure => simp [intOf]; omega
      · rw [if_pos (show Region.wanted _ _ = true from rfl)]
        go_simp
        refine hK _ _ (fun q hq _ _ => HR.out _ (hkd.alloc _).of_nil q hq) ?_
        clear hK K
        try go_simp
        have hk56 := hkd.alloc (.cells #[.int .u8 ((k : Int) % 256)] 5)
        have hV : Rb _ _ 1 (low k) := rb_mod k (Blk.fresh w5 5 #[.int .u8 ((k : Int) % 256)])
        refine oneU (i := 5) rfl (by kernel_rfl) (fun K hK => ?_)
        rw [if_pos (show Region.wanted _ _ = true from rfl)]
        go_wp2_with fail
        refine (number_any k _ hk6).mono ?_
        rintro e w7 ⟨nb, rfl, hnb, hO, hk5⟩
        have hkW := hk56.trans hk5
        replace hV := hV.keep0 hk5
        simp only []
        refine hK _ _ (fun q hq _ _ => HR.out _ hkW.of_nil q hq) ?_
        clear hK K
        try go_simp
        refine oneU (i := 12) rfl (by kernel_rfl) (fun K hK => ?_)
        rw [if_pos (show Region.wanted _ _ = true from rfl)]
        go_wp2_with fail
        have hrl := hkr.trans hkW.of_nil
        have hsW := hkW.size
        refine (tput (k := num k) (v := low k) (hTa.keep0 hkW) hO.rb hV (by simp) (by simp [low]) (by omega)).mono ?_
        rintro e w8 ⟨rfl, hTa8, hk8⟩
        have hkr8 := hkW.of_nil.trans hk8
        simp only []
        refine hK _ _ (fun q hq _ _ => HR.out _ hkr8 q hq) ?_
        clear hK K
        try go_simp
        refine doneU (by kernel_rfl) ?_
        go_wp2_with fail
        go_roundw
        case rel =>
          have hlen := ins_len (k := num k) hTa.srt (low k)
          refine ⟨i + 1, ins (num k) (low k) la, by simp, by omega, ?_, ?_, hTa8.off (by omega) (by omega) (.inl rfl), (hTb.keep0 hkW).keep hk8 (fun x hx => by simp at hx; subst hx; exact ⟨fun h => h.1 rfl, by omega⟩), hrl.step hk8 (fun x hx => .inr (by simp at hx; omega))⟩
          · have e : ks.take (i + 1) = ks.take i ++ [k] := by
              rw [List.take_add_one, HK.out]
              rfl
            rw [e]
            exact HA.out.put (fun j hj => hks j (List.mem_of_mem_take hj)) hk6
          · rw [hlen]
            split <;> omega
        case measure => simp [intOf]; omega
end Go.Proofs.Ythibgaagfdgmmaa
