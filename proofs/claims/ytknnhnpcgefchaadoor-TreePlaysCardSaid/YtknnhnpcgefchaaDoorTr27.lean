/- The tree itself: Del. -/
import Derived.Test.YtknnhnpcgefchaaDoorTr26
import Derived.Test.YtknnhnpcgefchaaDoorTr20
import Derived.Test.YtknnhnpcgefchaaDoorTrL

namespace Go.Proofs.YtknnhnpcgefchaaDoor
open Go.RowKit Go.Lib

/-- the root while single children take its place -/
def RootAt (w : World) (G : Nat → Prop) (t : Nat) (n : Nat) (l : List KV) (d : Nat) : Prop := ∃ root, Blk w t 57 #[.pointer (some ⟨root, 0, none⟩), .int .i64 (n : Nat)] ∧ NdAt w G d (if d = 0 then 0 else 1) 16 root [] l

set_option maxRecDepth 100000 in
set_option maxHeartbeats 4000000 in
theorem tdel {w : World} {F : Nat → Prop} {t : Nat} {l : List KV} {ko : Option Addr} {kc : Nat} {k : Bs} (h : TreeAt w F t l) (hk : Rb w ko kc k) (hll : l.length < 1000000000) :
    Calls Tryd.prog 12 #[.pointer (some ⟨t, 0, none⟩), .slice ko k.length kc] w fun e w' => e = .returned (.bool (has k l)) ∧ TreeAt w' (Grown F w) t (del k l) ∧ Keeps [t] w w' := by
  have HG := tget h hk
  have hsr := h.srt
  have H := h
  obtain ⟨⟨d, root, hB, hN⟩, hFt⟩ := h
  have htl := hB.lt
  have hout : ¬ Grown F w t := fun h => by rcases h with h | h; exact hFt h; omega
  go_enter Tryd.func12, Tryd.ntmps12
  go_wp2_with fail
  refine HG.mono ?_
  rintro e w1 ⟨hk1, hres⟩
  clear HG
  rcases hres with ⟨hh, rfl⟩ | ⟨hh, a, c, rfl, _, _, _⟩
  · have HH := Lib.hid hh
    clear hh
    go_wp2_with fail
    go_ret
    refine ⟨by rw [HH.out]; rfl, ?_, hk1.of_nil⟩
    rw [del_no hsr HH.out]
    exact (H.keep0 hk1).mono (fun x hx _ => .inl hx) hout
  · have hlen := del_len (k := k) hsr
    rw [if_pos hh] at hlen
    have HLEN := Lib.hid hlen
    have HH := Lib.hid hh
    have hl0 : 0 < l.length := by
      obtain ⟨p, hp, _⟩ := has_iff.1 hh
      exact List.length_pos_of_mem hp
    clear hlen hh
    have hB1 := hB.keep hk1 (by simp)
    have c1 : w1.cell? ⟨t, 0, none⟩ = some (.pointer (some ⟨root, 0, none⟩)) := hB1.cell 0
    have hl1 := hB1.lt
    go_wp2_with fail
    refine (ndel d w1 F (if d = 0 then 0 else 2) root [] l ko kc k (hN.keep0 hk1) (hk.keep0 hk1) HH.out (by by_cases hd : d = 0; exact .inl hd; exact .inr (by rw [if_neg hd]; omega))).mono ?_
    rintro e w2 ⟨nr, rfl, hN2, hk2⟩
    have hk02 := hk1.trans hk2
    have hB2 := hB.keep hk02 (by simp)
    have hc2 := hB2.cell
    have hf2 := hB2.free
    have hl2 := hB2.lt
    clear c1 hl1 hB1
    obtain ⟨G, hG⟩ : ∃ G, G = Grown F w1 := ⟨_, rfl⟩
    rw [← hG] at hN2
    have hGt : ¬ G t := fun h => by
      rw [hG] at h
      rcases h with h | h
      · exact hFt h
      · have := hB.lt
        have := (hB.keep hk1 (by simp)).lt
        omega
    have hGF : ∀ x, G x → x < w2.heap.size → Grown F w x := fun x h _ => by
      rw [hG] at h
      rcases h with h | h
      · exact .inl h
      · exact .inr (Nat.le_trans hk1.size h)
    go_wp2_with fail
    have hB3 := (hB2.put 0 (.pointer (some ⟨nr, 0, none⟩))).eq (cs' := #[.pointer (some ⟨nr, 0, none⟩), .int .i64 (l.length : Nat)]) (by simp)
    have hk23 := (Keeps.refl [t] w2).set (p := ⟨t, 0, none⟩) (.inl (by simp)) (.pointer (some ⟨nr, 0, none⟩))
    generalize World.setCell w2 _ _ = w3 at *
    have hkt : ∀ x ∈ [t], ¬ G x := fun x hx => by simp at hx; subst hx; exact hGt
    have hk03 : Keeps [t] w w3 := hk02.of_nil.trans hk23
    have HST : RootAt w3 G t l.length (del k l) d := ⟨nr, hB3, by
      have := hN2.keep hk23 hkt
      by_cases hd : d = 0
      · simpa [hd] using this
      · simpa [hd] using this⟩
    have fin : ∀ (w5 wr : World) (d' b m : Nat), Keeps [t] w wr → Keeps [t] wr w5 → Blk w5 t 57 #[.pointer (some ⟨b, 0, none⟩), .int .i64 ((l.length - 1 : Nat) : Int)] → NdAt wr G d' m 16 b [] (del k l) → (if d' = 0 then 0 else 2) ≤ m → TreeAt w5 (Grown F w) t (del k l) ∧ Keeps [t] w w5 := fun w5 wr d' b m hkr hk5 hB5 hN5 hm => by
      refine ⟨⟨⟨d', b, by rw [HLEN.out]; exact hB5, ?_⟩, hout⟩, hkr.trans hk5⟩
      exact ((hN5.keep hk5 hkt).more hm (Nat.le_refl _)).mono (fun x hx _ => by
        rw [hG] at hx
        rcases hx with h | h
        · exact .inl h
        · exact .inr (Nat.le_trans hk1.size h))
    have FIN := Lib.hid fin
    have HKT := Lib.hid hkt
    have HST2 := Lib.hid HST
    have q5 : IntKind.i64.wrap ((l.length : Int) - 1) = ((l.length - 1 : Nat) : Int) := by rw [IntWalk.i64_in _ (by omega)]; omega
    clear fin hkt HST hc2 hf2 hl2 hB2 hN2 hB3 hB hN hG hGF
    go_loopw [] (fun wr => (∃ d, RootAt wr G t l.length (del k l) d) ∧ Keeps [t] w wr) (fun wr => least (fun d => RootAt wr G t l.length (del k l) d))
    case atStart => exact ⟨⟨d, HST2.out⟩, hk03⟩
    case round =>
      clear HST2 hk03 hk23
      obtain ⟨hex, hkr⟩ := hrel
      obtain ⟨d', hd'⟩ : ∃ d', d' = least (fun d => RootAt wr G t l.length (del k l) d) := ⟨_, rfl⟩
      have hR := least_spec hex
      rw [← hd'] at hR
      have HD := Lib.hid hd'
      clear hd' hex
      obtain ⟨rb, hBr, hNr⟩ := hR
      have hcr := hBr.cell
      have hfr := hBr.free
      have hlr := hBr.lt
      have hkr1 := Keeps.refl [t] wr
      cases d' with
      | zero =>
        have HN := hNr
        obtain ⟨fo, fc, po, pc, co, cc, ps, hBn, _⟩ := hNr
        have cn : wr.cell? ⟨rb, 2, none⟩ = some (.slice co 0 cc) := hBn.cell 2
        have hln := hBn.lt
        clear hBn
        go_wp2_with fail
        go_ret
        refine ⟨by rw [HH.out]; rfl, FIN.out _ wr 0 rb _ hkr (hkr1.set (p := ⟨t, 1, none⟩) (.inl (by simp)) (.int .i64 ((l.length - 1 : Nat) : Int))) ((hBr.put 1 (.int .i64 ((l.length - 1 : Nat) : Int))).eq (by simp)) HN (by simp)⟩
      | succ d' =>
        have HN := hNr
        obtain ⟨fo, fc, po, pc, co, cc, cs, hBn, hb, hf, hff, hS0, hS, hfc, hcs, hfl0, hah, hhd, hm0, hM2, hfl⟩ := hNr
        have cn : wr.cell? ⟨rb, 2, none⟩ = some (.slice co cs.length cc) := hBn.cell 2
        have hln := hBn.lt
        rw [if_neg (by simp)] at hm0
        by_cases h1 : cs.length = 1
        · obtain ⟨c, rfl⟩ := List.length_eq_one_iff.1 h1
          have hcap := hS.cap
          obtain ⟨bb, o, rfl⟩ := hS.at (by simp at hcap; omega)
          have cp : wr.cell? ⟨bb, o, none⟩ = some (.pointer (some ⟨c.b, 0, none⟩)) := by
            have := hS.cells rfl 0 (.pointer (some ⟨c.b, 0, none⟩)) (by simp [ptrs])
            rwa [addr_add rfl] at this
          have hcf : c.f = [] := by simpa using hhd
          have hcl : c.l = del k l := by simpa [flat] using hfl0
          have hcN := hcs c List.mem_cons_self
          rw [hcf, hcl] at hcN
          clear hcf hcl HN hBn hS0 hS hcs hfl0 hah hhd hm0 hM2 hfl h1 hcap
          go_wp2_with fail
          have hkn := hkr1.set (p := ⟨t, 0, none⟩) (.inl (by simp)) (.pointer (some ⟨c.b, 0, none⟩))
          have hnew : RootAt (wr.setCell ⟨t, 0, none⟩ (.pointer (some ⟨c.b, 0, none⟩))) G t l.length (del k l) d' := ⟨c.b, (hBr.put 0 (.pointer (some ⟨c.b, 0, none⟩))).eq (by simp), (hcN.more (by split <;> omega) (Nat.le_refl _)).keep hkn HKT.out⟩
          go_roundw
          case rel => exact ⟨⟨d', hnew⟩, hkr.trans hkn⟩
          case measure =>
            have e1 := HD.out
            have e2 := least_le (p := fun d => RootAt (wr.setCell ⟨t, 0, none⟩ (.pointer (some ⟨c.b, 0, none⟩))) G t l.length (del k l) d) hnew
            omega
        · have n1 : ¬ ((cs.length : Int) = 1) := by omega
          have HN2 : NdAt wr G (d' + 1) 2 16 rb [] (del k l) := ⟨fo, fc, po, pc, co, cc, cs, hBn, hb, hf, hff, hS0, hS, hfc, hcs, hfl0, hah, hhd, by omega, hM2, hfl⟩
          clear HN hBn hS0 hS hcs hfl0 hah hhd hfl
          go_wp2_with fail
          go_ret
          refine ⟨by rw [HH.out]; rfl, FIN.out _ wr (d' + 1) rb 2 hkr (hkr1.set (p := ⟨t, 1, none⟩) (.inl (by simp)) (.int .i64 ((l.length - 1 : Nat) : Int))) ((hBr.put 1 (.int .i64 ((l.length - 1 : Nat) : Int))).eq (by simp)) HN2 (by simp)⟩
end Go.Proofs.YtknnhnpcgefchaaDoor
