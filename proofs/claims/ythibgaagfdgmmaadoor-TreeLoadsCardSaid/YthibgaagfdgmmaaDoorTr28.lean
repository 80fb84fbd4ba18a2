/- The tree itself: Clone, Dump. -/
import Derived.Test.YthibgaagfdgmmaaDoorTr27
import Derived.Test.YthibgaagfdgmmaaDoorWY

namespace Go.Proofs.YthibgaagfdgmmaaDoor
open Go.RowKit Go.Lib

def tx (b : Bs) : Bs := textB uvarint b
def enc (p : KV) : Bs := tx p.1 ++ tx p.2
/-- the dump's bytes ahead of what is left -/
def outB (n : Nat) (l1 : List KV) : Bs := uvarint n ++ (l1.map enc).flatten
theorem outB_dump (l : List KV) : outB l.length l = dumpB uvarint l := rfl
theorem outB_snoc (n : Nat) (l1 : List KV) (p : KV) : outB n (l1 ++ [p]) = outB n l1 ++ tx p.1 ++ tx p.2 := by simp [outB, enc]
def rest (k : Bs) (ab : Bool) (l : List KV) : List KV := if ab then hi k l else frm k l
theorem nxt_rest (k : Bs) (ab : Bool) (l : List KV) : nxt k ab l = (rest k ab l).head? := by cases ab <;> rfl
theorem rest_next {l l1 l2 : List KV} {k v : Bs} (hs : Srt l) (h : l = l1 ++ (k, v) :: l2) : rest k true l = l2 := by
  subst h
  obtain ⟨_, h2, h3⟩ := Srt.app.1 hs
  have h4 := (List.pairwise_cons.1 h2).1
  change hi k (l1 ++ (k, v) :: l2) = l2
  rw [hi_app, hi_none fun p hp => ltB_asymm (h3 p hp (k, v) List.mem_cons_self)]
  change [] ++ hi k ([(k, v)] ++ l2) = l2
  rw [hi_app, hi_all h4, hi_none (by simp [ltB_irr])]
  rfl
theorem outB_le (l l1 l2 : List KV) (h : l = l1 ++ l2) : (outB l.length l1).length ≤ (dumpB uvarint l).length := by
  rw [← outB_dump]
  conv => rhs; arg 1; arg 2; rw [h]
  simp [outB]
theorem tx_pos (b : Bs) : 1 ≤ (tx b).length := by
  have := uvarint_pos b.length
  simp [tx, textB]
  omega
theorem blks_of {P : Nat → Prop} {ao : Option Addr} (h : ∀ ad, ao = some ad → P ad.block) : ∀ x ∈ blks ao, P x := by
  cases ao with
  | none => simp
  | some ad =>
    intro x hx
    simp at hx
    subst hx
    exact h ad rfl
theorem ix0 (W : World) (a b : Option Addr) (n c m d : Nat) : (Instr.index 65 (.agg #[.slice a n c, .slice b m d]) (.int .i64 0)).run Tryd.prog W = .ok (.slice a n c) W := by kernel_rfl
theorem ix1 (W : World) (a b : Option Addr) (n c m d : Nat) : (Instr.index 65 (.agg #[.slice a n c, .slice b m d]) (.int .i64 1)).run Tryd.prog W = .ok (.slice b m d) W := by kernel_rfl
def lenOf : Value → Nat
  | .slice _ n _ => n
  | _ => 0

set_option maxRecDepth 100000 in
set_option maxHeartbeats 8000000 in
theorem tdump {w : World} {F : Nat → Prop} {t : Nat} {l : List KV} (h : TreeAt w F t l) (hD : (dumpB uvarint l).length ≤ 1000000000) :
    Calls Tryd.prog 9 #[.pointer (some ⟨t, 0, none⟩)] w fun e w' => ∃ ao c, e = .returned (.slice ao (dumpB uvarint l).length c) ∧ Own w' w.heap.size ao c (dumpB uvarint l) ∧ Keeps [] w w' := by
  obtain ⟨i, z, hi, hz, hsz, hby, hzc⟩ := infoB
  have hsr := h.srt
  have htl := h.lt
  have hll : l.length ≤ 1000000000 := by
    refine Nat.le_trans ?_ hD
    rw [← outB_dump]
    simp only [outB, List.length_append]
    have : ∀ m : List KV, m.length ≤ ((m.map enc).flatten).length := fun m => by
      induction m with
      | nil => simp
      | cons p m ih =>
        have : 1 ≤ (enc p).length := by
          have := uvarint_pos p.1.length
          simp [enc, tx, textB]
          omega
        simp only [List.map_cons, List.flatten_cons, List.length_append, List.length_cons]
        omega
    have := this l
    omega
  have hT0 : TreeAt w (fun x => F x ∧ x < w.heap.size) t l := h.mono (fun x hx hlt => ⟨hx, hlt⟩) (fun hh => h.out hh.1)
  obtain ⟨⟨d, root, hB, hN⟩, hFt⟩ := h
  have c1 : w.cell? ⟨t, 1, none⟩ = some (.int .i64 (l.length : Nat)) := hB.cell 1
  have q1 : IntKind.u64.wrap (l.length : Int) = (l.length : Int) := IntWalk.u64_in _ (by omega)
  go_enter Tryd.func9, Tryd.ntmps9
  go_wp2_with fail
  refine (putUint l.length w (by omega)).mono ?_
  rintro e w1 ⟨ao, c, rfl, hO, hk1⟩
  clear c1
  go_wp2_with fail
  refine (tseek (t := t) (k := []) (Sl.none w1 1) (by simp)).mono ?_
  rintro e w2 ⟨cb, rfl, hcb, hC, hk2⟩
  obtain ⟨F2, hF2⟩ : ∃ F2, F2 = (fun x => F x ∧ x < w.heap.size) := ⟨_, rfl⟩
  rw [← hF2] at hT0
  have hF2w : ∀ x, F2 x → x < w.heap.size := fun x h => by rw [hF2] at h; exact h.2
  have hC2 : CurAt w2 F2 cb t [] false := by
    obtain ⟨a, kc, g1, g2, g3, g4⟩ := hC
    exact ⟨a, kc, g1, g2, Fr.nil _ _, g4⟩
  have hk02 := hk1.trans hk2
  have hs1 := hk1.size
  have hT2 := hT0.keep0 hk02
  have hO2 := hO.keep0 hk2
  have hcbo : cb ∉ blks ao := fun hm => by have := (hO.lt cb hm).2; omega
  have HS := Lib.hid (And.intro hT2 (And.intro hO2 (And.intro hC2 hk02)))
  have HF2 := Lib.hid hF2w
  have hcbw : w.heap.size ≤ cb := by omega
  clear hC hC2 hO hO2 hT0 hT2 hF2 hk1 hk2 hcb hB hN hFt hF2w
  go_wp2_with fail
  go_loopw [3] (fun s wr => ∃ (l1 l2 : List KV) (k : Bs) (ab : Bool) (ao : Option Addr) (c : Nat), s = .slice ao (outB l.length l1).length c ∧ l = l1 ++ l2 ∧ rest k ab l = l2 ∧ Own wr w.heap.size ao c (outB l.length l1) ∧ cb ∉ blks ao ∧ TreeAt wr F2 t l ∧ CurAt wr F2 cb t k ab ∧ Keeps [] w wr) (fun s _ => (dumpB uvarint l).length - lenOf s)
  case atStart => exact ⟨[], l, [], false, ao, c, by simp [outB], rfl, frm_all fun p _ => nil_leB p.1, by simpa [outB] using HS.out.2.1, hcbo, HS.out.1, HS.out.2.2.1, HS.out.2.2.2⟩
  case round =>
    clear hcbo HS
    obtain ⟨l1, l2, k, ab, ao, c, rfl, hl, hr, hO, hcbo, hT, hC, hkr⟩ := hrel
    have HL := Lib.hid hl
    have HRE := Lib.hid hr
    have hle := outB_le l l1 l2 hl
    have HOut := Lib.hid hcbo
    obtain ⟨out, hout⟩ : ∃ out, out = outB l.length l1 := ⟨_, rfl⟩
    rw [← hout] at hO hle
    rw [← hout]
    have HOU := Lib.hid hout
    clear hl hr hcbo hout
    go_wp2_with fail
    refine (cnext hT hC (fun h => by have := HF2.out _ h; omega)).mono ?_
    rintro e w3 hA
    rcases hA with ⟨hno, rfl, hk3⟩ | ⟨k', v', hyes, a1, c1, a2, c2, rfl, hr1, hf1, hr2, hf2, hC3, hk3, hk1l, hv1l⟩
    · have HNO := Lib.hid hno
      clear hno
      go_wp2_with fail
      go_ret
      have hl2 : l2 = [] := by
        have := HNO.out
        rw [nxt_rest, HRE.out] at this
        simpa using this
      have e : out = dumpB uvarint l := by
        rw [HOU.out, ← outB_dump]
        have := HL.out
        rw [hl2, List.append_nil] at this
        rw [← this]
      rw [← e]
      exact ⟨ao, c, rfl, hO.keep0 hk3, hkr.trans hk3⟩
    · obtain ⟨l3, hl3⟩ : ∃ l3, l2 = (k', v') :: l3 := by
        have := hyes
        rw [nxt_rest, HRE.out] at this
        cases l2 with
        | nil => simp at this
        | cons p l3 => simp at this; exact ⟨l3, by rw [this]⟩
      have HL3 := Lib.hid hl3
      clear hyes hl3
      have hs3 := hk3.size
      have hO3 := hO.keep hk3 (fun x hx hm => by simp at hm; subst hm; exact HOut.out hx)
      have hT3 := hT.keep hk3 (fun x hx => by
        simp at hx
        subst hx
        exact ⟨fun h => by have := HF2.out _ h; omega, fun h => by subst h; omega⟩)
      have hk03 := hkr.step hk3 (fun x hx => by simp at hx; subst hx; exact .inr hcbw)
      have holt := hO.lt
      have hcb3 := hC3.lt
      have HP := Lib.hid (And.intro hO3 (And.intro hT3 (And.intro hC3 (And.intro hr1 (And.intro hr2 hk03)))))
      have hb1 : ∀ ad, a1 = some ad → bys k' ≠ [] → ad.block < w3.heap.size := fun ad e hx => hr1.lt e hx
      have hb2 : ∀ ad, a2 = some ad → bys v' ≠ [] → ad.block < w3.heap.size := fun ad e hx => hr2.lt e hx
      obtain ⟨s0, hs0⟩ : ∃ s0, s0 = wr.heap.size := ⟨_, rfl⟩
      obtain ⟨s3, hs3e⟩ : ∃ s3, s3 = w3.heap.size := ⟨_, rfl⟩
      rw [← hs0] at hf1 hf2 holt hs3
      rw [← hs3e] at hb1 hb2 hs3 hcb3
      have HS3 := Lib.hid (And.intro hs3 (Nat.le_of_eq hs3e))
      have HFA := Lib.hid (And.intro hf1 (And.intro hf2 (And.intro hb1 hb2)))
      have HOL := Lib.hid holt
      have htot : (out ++ tx k' ++ tx v').length ≤ (dumpB uvarint l).length := by
        have := outB_le l (l1 ++ [(k', v')]) l3 (by rw [HL.out, HL3.out]; simp)
        rwa [outB_snoc, ← HOU.out] at this
      have HTOT := Lib.hid (And.intro htot hD)
      have hle : out.length ≤ 1000000000 := by simp at htot; omega
      clear hO hO3 hT hT3 hC hC3 hr1 hr2 hkr hk03 hf1 hf2 hk3 holt hb1 hb2 hs0 hs3e htot
      go_wp2_with fail
      go_loopw [3, 30] (fun s v wr => ∃ (j : Nat) (ao : Option Addr) (c : Nat) (o : Bs), s = .slice ao o.length c ∧ v = .int .i64 (j : Int) ∧ ((j = 0 ∧ o = out) ∨ (j = 1 ∧ o = out ++ tx k') ∨ (j = 2 ∧ o = out ++ tx k' ++ tx v')) ∧ Own wr w.heap.size ao c o ∧ (∀ x ∈ blks ao, w.heap.size ≤ x ∧ x ≠ cb ∧ (x < s0 ∨ s3 ≤ x)) ∧ TreeAt wr F2 t l ∧ CurAt wr F2 cb t k' true ∧ Rb wr a1 c1 k' ∧ Rb wr a2 c2 v' ∧ Keeps [] w wr ∧ s3 ≤ wr.heap.size) (fun _ v _ => 2 - (intOf v).toNat)
      case atStart =>
        obtain ⟨g1, g2, g3, g4, g5, g6⟩ := HP.out
        exact ⟨0, ao, c, out, rfl, rfl, .inl ⟨rfl, rfl⟩, g1, fun x hx => ⟨(HOL.out x hx).1, fun h => by subst h; exact HOut.out hx, .inl (HOL.out x hx).2⟩, g2, g3, g4, g5, g6, HS3.out.2⟩
      case round =>
        clear HP
        obtain ⟨j, ao, c, o, rfl, rfl, hj, hO, hok, hT, hC, hr1, hr2, hkw, hz3⟩ := hrel
        obtain ⟨hf1, hf2, hb1, hb2⟩ := HFA.out
        rcases hj with ⟨rfl, ho⟩ | ⟨rfl, ho⟩ | ⟨rfl, ho⟩
        · have hol : o.length ≤ 1000000000 := by rw [ho]; exact hle
          have HO := Lib.hid ho
          clear ho
          have n1 : ((0 : Nat) : Int) < 2 := by decide
          have q2 : IntKind.u64.wrap (k'.length : Int) = (k'.length : Int) := IntWalk.u64_in _ (by omega)
          have ix := ix0 wr a1 a2 k'.length c1 v'.length c2
          go_wp2_with fail
          refine (putUint k'.length wr (by omega)).mono ?_
          rintro e w4 ⟨ao4, c4, rfl, hO4, hk4⟩
          have hd : ∀ ad, a1 = some ad → bys k' ≠ [] → ad.block ∉ blks ao := fun ad e hx hm => by
            have := hf1 ad e hx
            have := (hok _ hm).2.2
            have := hb1 ad e hx
            omega
          have hul := uvarint_length64 (x := k'.length) (by omega)
          have hOa := hO.keep0 hk4
          have hRa := hr1.keep0 hk4
          have hs4 := hk4.size
          have hws := hkw.size
          go_wp2_with (first
            | (at_builtin; refine wpList_append_by _ rfl _ _ 22 22 rfl (w.heap.size) 5 i z 1 1 Tryd.underlying22 hi hz hsz hby hzc (ao) _ (c) _ rfl hOa _ rfl (uvarint k'.length).length _ (hO4.rb.src Tryd.underlying22) (by unfold maxLen; omega) (by omega) (by omega) ?_; intro ao5 c5 w5 hO5 hk5 hb5)
            | (at_builtin; refine wpList_append_by _ rfl _ _ 22 22 rfl (w.heap.size) 5 i z 1 1 Tryd.underlying22 hi hz hsz hby hzc (ao5) _ (c5) _ rfl hO5 _ rfl k'.length _ ((hRa.keep hk5 hd).src Tryd.underlying22) (by unfold maxLen; omega) (by omega) (by have := hk5.size; omega) ?_; intro ao6 c6 w6 hO6 hk6 hb6))
          have hok5 : ∀ x ∈ blks ao5, w.heap.size ≤ x ∧ x ≠ cb ∧ (x < s0 ∨ s3 ≤ x) := blks_of fun ad e => by
            rcases hb5 ad e with h | h
            · exact hok _ h
            · exact ⟨by omega, by omega, .inr (by omega)⟩
          have hok6 : ∀ x ∈ blks ao6, w.heap.size ≤ x ∧ x ≠ cb ∧ (x < s0 ∨ s3 ≤ x) := blks_of fun ad e => by
            rcases hb6 ad e with h | h
            · exact hok5 _ h
            · have := hk5.size
              exact ⟨by omega, by omega, .inr (by omega)⟩
          have hd5 : ∀ (a9 : Option Addr) (k9 : Bs), Fr (fun x => s0 ≤ x) a9 (bys k9) → (∀ ad, a9 = some ad → bys k9 ≠ [] → ad.block < s3) → ∀ (ao9 : Option Addr), (∀ x ∈ blks ao9, w.heap.size ≤ x ∧ x ≠ cb ∧ (x < s0 ∨ s3 ≤ x)) → ∀ ad, a9 = some ad → bys k9 ≠ [] → ad.block ∉ blks ao9 := fun a9 k9 g1 g2 ao9 g3 ad e hx hm => by
            have := g1 ad e hx
            have := g2 ad e hx
            have := (g3 _ hm).2.2
            omega
          have htk : ∀ (ao9 : Option Addr), (∀ x ∈ blks ao9, w.heap.size ≤ x ∧ x ≠ cb ∧ (x < s0 ∨ s3 ≤ x)) → ∀ x ∈ blks ao9, ¬ F2 x ∧ x ≠ t := fun ao9 g x hx => by
            have := (g x hx).1
            exact ⟨fun h => by have := HF2.out _ h; omega, by omega⟩
          have hO7 : Own w6 w.heap.size ao6 c6 (o ++ tx k') := Own.of hO6 (by simp [tx, textB, bys_append])
          have hL7 : (o ++ tx k').length = o.length + (uvarint k'.length).length + k'.length := by simp [tx, textB]; omega
          rw [← hL7]
          go_roundw
          case rel =>
            refine ⟨0 + 1, ao6, c6, o ++ tx k', by simp, by simp, .inr (.inl ⟨rfl, by rw [HO.out]⟩), hO7, hok6, ((hT.keep0 hk4).keep hk5 (htk ao hok)).keep hk6 (htk ao5 hok5), ((hC.keep0 hk4).keep hk5 (fun h => (hok _ h).2.1 rfl) (fun x hx => (htk ao hok x hx).1)).keep hk6 (fun h => (hok5 _ h).2.1 rfl) (fun x hx => (htk ao5 hok5 x hx).1), ((hr1.keep0 hk4).keep hk5 (hd5 a1 k' hf1 hb1 ao hok)).keep hk6 (hd5 a1 k' hf1 hb1 ao5 hok5), ((hr2.keep0 hk4).keep hk5 (hd5 a2 v' hf2 hb2 ao hok)).keep hk6 (hd5 a2 v' hf2 hb2 ao5 hok5), ?_, ?_⟩
            · exact ((hkw.trans hk4).step hk5 (fun x hx => .inr (hok x hx).1)).step hk6 (fun x hx => .inr (hok5 x hx).1)
            · have := hk5.size
              have := hk6.size
              omega
          case measure => simp [intOf]
        · have hol : o.length ≤ 1000000000 := by
            have g1 := HTOT.out.1; have g2 := HTOT.out.2
            rw [ho]
            simp only [List.length_append] at g1 ⊢
            omega
          have HO := Lib.hid ho
          clear ho
          have n1 : ((1 : Nat) : Int) < 2 := by decide
          have q2 : IntKind.u64.wrap (v'.length : Int) = (v'.length : Int) := IntWalk.u64_in _ (by omega)
          have ix := ix1 wr a1 a2 k'.length c1 v'.length c2
          go_wp2_with fail
          refine (putUint v'.length wr (by omega)).mono ?_
          rintro e w4 ⟨ao4, c4, rfl, hO4, hk4⟩
          have hd : ∀ ad, a2 = some ad → bys v' ≠ [] → ad.block ∉ blks ao := fun ad e hx hm => by
            have := hf2 ad e hx
            have := (hok _ hm).2.2
            have := hb2 ad e hx
            omega
          have hul := uvarint_length64 (x := v'.length) (by omega)
          have hOa := hO.keep0 hk4
          have hRa := hr2.keep0 hk4
          have hs4 := hk4.size
          have hws := hkw.size
          go_wp2_with (first
            | (at_builtin; refine wpList_append_by _ rfl _ _ 22 22 rfl (w.heap.size) 5 i z 1 1 Tryd.underlying22 hi hz hsz hby hzc (ao) _ (c) _ rfl hOa _ rfl (uvarint v'.length).length _ (hO4.rb.src Tryd.underlying22) (by unfold maxLen; omega) (by omega) (by omega) ?_; intro ao5 c5 w5 hO5 hk5 hb5)
            | (at_builtin; refine wpList_append_by _ rfl _ _ 22 22 rfl (w.heap.size) 5 i z 1 1 Tryd.underlying22 hi hz hsz hby hzc (ao5) _ (c5) _ rfl hO5 _ rfl v'.length _ ((hRa.keep hk5 hd).src Tryd.underlying22) (by unfold maxLen; omega) (by omega) (by have := hk5.size; omega) ?_; intro ao6 c6 w6 hO6 hk6 hb6))
          have hok5 : ∀ x ∈ blks ao5, w.heap.size ≤ x ∧ x ≠ cb ∧ (x < s0 ∨ s3 ≤ x) := blks_of fun ad e => by
            rcases hb5 ad e with h | h
            · exact hok _ h
            · exact ⟨by omega, by omega, .inr (by omega)⟩
          have hok6 : ∀ x ∈ blks ao6, w.heap.size ≤ x ∧ x ≠ cb ∧ (x < s0 ∨ s3 ≤ x) := blks_of fun ad e => by
            rcases hb6 ad e with h | h
            · exact hok5 _ h
            · have := hk5.size
              exact ⟨by omega, by omega, .inr (by omega)⟩
          have hd5 : ∀ (a9 : Option Addr) (k9 : Bs), Fr (fun x => s0 ≤ x) a9 (bys k9) → (∀ ad, a9 = some ad → bys k9 ≠ [] → ad.block < s3) → ∀ (ao9 : Option Addr), (∀ x ∈ blks ao9, w.heap.size ≤ x ∧ x ≠ cb ∧ (x < s0 ∨ s3 ≤ x)) → ∀ ad, a9 = some ad → bys k9 ≠ [] → ad.block ∉ blks ao9 := fun a9 k9 g1 g2 ao9 g3 ad e hx hm => by
            have := g1 ad e hx
            have := g2 ad e hx
            have := (g3 _ hm).2.2
            omega
          have htk : ∀ (ao9 : Option Addr), (∀ x ∈ blks ao9, w.heap.size ≤ x ∧ x ≠ cb ∧ (x < s0 ∨ s3 ≤ x)) → ∀ x ∈ blks ao9, ¬ F2 x ∧ x ≠ t := fun ao9 g x hx => by
            have := (g x hx).1
            exact ⟨fun h => by have := HF2.out _ h; omega, by omega⟩
          have hO7 : Own w6 w.heap.size ao6 c6 (o ++ tx v') := Own.of hO6 (by simp [tx, textB, bys_append])
          have hL7 : (o ++ tx v').length = o.length + (uvarint v'.length).length + v'.length := by simp [tx, textB]; omega
          rw [← hL7]
          go_roundw
          case rel =>
            refine ⟨1 + 1, ao6, c6, o ++ tx v', by simp, by simp, .inr (.inr ⟨rfl, by rw [HO.out]⟩), hO7, hok6, ((hT.keep0 hk4).keep hk5 (htk ao hok)).keep hk6 (htk ao5 hok5), ((hC.keep0 hk4).keep hk5 (fun h => (hok _ h).2.1 rfl) (fun x hx => (htk ao hok x hx).1)).keep hk6 (fun h => (hok5 _ h).2.1 rfl) (fun x hx => (htk ao5 hok5 x hx).1), ((hr1.keep0 hk4).keep hk5 (hd5 a1 k' hf1 hb1 ao hok)).keep hk6 (hd5 a1 k' hf1 hb1 ao5 hok5), ((hr2.keep0 hk4).keep hk5 (hd5 a2 v' hf2 hb2 ao hok)).keep hk6 (hd5 a2 v' hf2 hb2 ao5 hok5), ?_, ?_⟩
            · exact ((hkw.trans hk4).step hk5 (fun x hx => .inr (hok x hx).1)).step hk6 (fun x hx => .inr (hok5 x hx).1)
            · have := hk5.size
              have := hk6.size
              omega
          case measure => simp [intOf]
        · have HO := Lib.hid ho
          clear ho
          go_wp2_with fail
          go_roundw
          case rel =>
            refine ⟨l1 ++ [(k', v')], l3, k', true, ao, c, ?_, by rw [HL.out, HL3.out]; simp, rest_next hsr (by rw [HL.out, HL3.out]), ?_, fun h => (hok _ h).2.1 rfl, hT, hC, hkw⟩
            · rw [outB_snoc, ← HOU.out, ← HO.out]
            · rw [outB_snoc, ← HOU.out, ← HO.out]
              exact hO
          case measure =>
            have g1 := HTOT.out.1; have g2 := HTOT.out.2
            have e := HO.out
            simp only [lenOf]
            have h3 : o.length = out.length + (tx k').length + (tx v').length := by rw [e]; simp; omega
            have h4 := tx_pos k'
            simp only [List.length_append] at g1
            omega
end Go.Proofs.YthibgaagfdgmmaaDoor
