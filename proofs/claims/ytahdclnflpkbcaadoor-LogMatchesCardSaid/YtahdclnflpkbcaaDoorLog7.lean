/- The log's methods, one contract each: Merge. -/
import Derived.Test.YtahdclnflpkbcaaDoorLog6
import Derived.Test.YtahdclnflpkbcaaDoorLaws
import Derived.Deep.DeepCutAuto
import Derived.Deep.CutBlock

namespace Go.Proofs.YtahdclnflpkbcaaDoor
open Go.RowKit

theorem lterm_any (b : Nat) (g : Lg) (i : Int) (w : World) (h : LogAt w b g) (h0 : 0 ≤ g.base) (h1 : g.last < 1000000) :
    Calls Tryd.prog 10 #[.pointer (some ⟨b, 0, none⟩), .int .u64 i] w fun e w' => ∃ t ev, e = .returned (.tuple #[.int .u64 t, ev]) ∧
      ((g.base ≤ i ∧ i ≤ g.last ∧ t = g.at i ∧ ev = .nilIface) ∨ ((i < g.base ∨ g.last < i) ∧ ∃ gg, ev = .iface 83 (.pointer (some ⟨gg, 0, none⟩)))) ∧ Keeps [] w w' := by
  by_cases hi : g.base ≤ i ∧ i ≤ g.last
  · refine (lterm_ok b g i w h h0 (by omega) hi.1 hi.2).mono ?_
    rintro e w1 ⟨rfl, hk⟩
    exact ⟨_, _, rfl, .inl ⟨hi.1, hi.2, rfl, rfl⟩, hk⟩
  · refine (lterm_no b g i w h h0 (by omega) (by omega)).mono ?_
    rintro e w1 ⟨gg, p, rfl, _, hk⟩
    exact ⟨_, _, rfl, .inr ⟨by omega, gg, rfl⟩, hk⟩

theorem Tryd.sizeE : (Tryd.prog.info? 30).map (·.size) = some 5 := by kernel_rfl

set_option maxRecDepth 100000 in
set_option maxHeartbeats 4000000 in
theorem lmerge_no (b : Nat) (g : Lg) (prev term commit at_ : Int) (bo : Option Addr) (m d : Nat) (w : World) (h : LogAt w b g) (hp0 : g.base ≤ prev)
    (hL : ∀ w, LogAt w b g → Calls Tryd.prog 29 #[.pointer (some ⟨b, 0, none⟩), .int .u64 prev, .int .u64 term] w fun e w' => ∃ ev, e = .returned (.tuple #[.int .u64 at_, ev]) ∧ ErrIs w' ev 52 ∧ ev ≠ .nilIface ∧ Keeps [] w w') :
    Calls Tryd.prog 11 #[.pointer (some ⟨b, 0, none⟩), .int .u64 prev, .int .u64 term, .slice bo m d, .int .u64 commit] w fun e w' => ∃ ev, e = .returned (.tuple #[.int .u64 at_, .int .u64 0, ev]) ∧ ErrIs w' ev 52 ∧ ev ≠ .nilIface ∧ Keeps [] w w' := by
  have h' := h
  obtain ⟨ao, c, hB, _, _⟩ := h'
  have hc := hB.cell
  have hl := hB.lt
  have HL := Lib.hid hL
  clear hL
  go_enter Tryd.func11, Tryd.ntmps11
  go_wp2_with fail
  refine (HL.out w h).mono ?_
  rintro e w1 ⟨ev, rfl, hE, hne, hk1⟩
  rcases hE with ⟨rfl, _⟩ | ⟨gg, p, rfl, hb⟩
  · exact absurd rfl hne
  · go_wp2_with fail
    go_ret3
    exact ⟨_, rfl, .inr ⟨_, _, rfl, hb⟩, by simp, hk1⟩

set_option maxRecDepth 100000 in
set_option maxHeartbeats 8000000 in
theorem lmerge (b : Nat) (g : Lg) (prev commit : Int) (bo : Option Addr) (m d : Nat) (l : List En) (w : World) (hm : m = l.length) (h : LogAt w b g) (hT : Sl w 5 bo m d (ens l)) (hTb : ∀ ad, bo = some ad → l ≠ [] → ad.block ≠ b)
    (h0 : 0 ≤ g.base) (h1 : g.last < 1000000) (hl1 : l.length ≤ 1000000) (hp0 : g.base ≤ prev) (hp : prev ≤ g.last) (hc0 : 0 ≤ commit) :
    Calls Tryd.prog 11 #[.pointer (some ⟨b, 0, none⟩), .int .u64 prev, .int .u64 (g.at prev), .slice bo m d, .int .u64 commit] w fun e w' => ∃ ch, e = .returned (.tuple #[.int .u64 (prev + l.length), .int .u64 ch, .nilIface]) ∧
      ch = (if g.fits commit (prev + 1) l = l.length then 0 else prev + 1 + (g.fits commit (prev + 1) l : Int)) ∧ LogAt w' b (g.laid prev l commit) ∧ Keeps [b] w w' := by
  subst hm
  have hlast : g.last = g.base + (g.es.length : Int) := rfl
  have h' := h
  obtain ⟨ao, c, hB, hS, hap⟩ := h'
  have hc := hB.cell
  have hl := hB.lt
  have k0 : IntKind.u64.wrap (l.length : Int) = l.length := IntWalk.u64_in _ (by omega)
  have k1 : IntKind.u64.wrap (prev + (l.length : Int)) = prev + l.length := IntWalk.u64_in _ (by omega)
  go_enter Tryd.func11, Tryd.ntmps11
  go_wp2_with fail
  refine (llacks_ok b g prev (g.at prev) w h h0 h1 hp0 hp rfl).mono ?_
  rintro e w1 ⟨rfl, hk1⟩
  have hL1 := h.keep0 hk1
  have hT1 := hT.keep0 hk1
  clear hc hl hB hS hap
  go_wp2_with fail
  go_loopw [17, 68] (fun z i wr => ∃ k : Nat, k ≤ l.length ∧ z = .int .u64 0 ∧ i = .int .i64 (k : Int) ∧ k ≤ g.fits commit (prev + 1) l ∧ LogAt wr b g ∧ Keeps [] w wr) (fun _ i _ => l.length - (intOf i).toNat)
  case atStart => exact ⟨0, by omega, rfl, rfl, by omega, hL1, hk1⟩
  case round =>
    obtain ⟨k, hk, rfl, rfl, hfit, hLk, hkk⟩ := hrel
    by_cases hlt : k < l.length
    · obtain ⟨en, hen⟩ : ∃ en, l[k]? = some en := ⟨_, List.getElem?_eq_getElem hlt⟩
      have hfs := g.fits_step commit (prev + 1) l k en hen hfit
      have hTk := hT.keep0 hkk
      obtain ⟨zb, zo, rfl⟩ := hTk.at (by have := hTk.cap; omega)
      have HL := Lib.hid (show ∀ j v, (En.cells en)[j]? = some v → wr.cell? ⟨zb, zo + k * 5 + j, none⟩ = some v by
        intro j v hv
        have hj : j < 5 := by
          rcases Nat.lt_or_ge j 5 with h | h
          · exact h
          · rw [List.getElem?_eq_none (by simpa [En.cells] using h)] at hv
            cases hv
        have := hTk.cell _ rfl (k * 5 + j) v (by rw [ens_at l k en hen j hj]; exact hv)
        simpa [Nat.add_assoc] using this)
      have q1 : IntKind.u64.wrap (k : Int) = (k : Int) := IntWalk.u64_in _ (by omega)
      have q2 : IntKind.u64.wrap (prev + (k : Int)) = prev + k := IntWalk.u64_in _ (by omega)
      have q3 : IntKind.u64.wrap (prev + (k : Int) + 1) = prev + 1 + k := by rw [show prev + (k : Int) + 1 = prev + 1 + k by omega]; exact IntWalk.u64_in _ (by omega)
      have hX := Blk.fresh wr 30 #[.int .u64 (en).term, .int .i64 (en).kind, .int .u64 (en).client, .int .u64 (en).seq, .string (en).sql]
      have hLa := hLk.keep0 ((Keeps.refl [] wr).alloc (.cells #[.int .u64 (en).term, .int .i64 (en).kind, .int .u64 (en).client, .int .u64 (en).seq, .string (en).sql] 30))
      have hka := hkk.alloc (.cells #[.int .u64 (en).term, .int .i64 (en).kind, .int .u64 (en).client, .int .u64 (en).seq, .string (en).sql] 30)
      clear hTk hLk hkk
      have hkl : (k : Int) < (l.length : Int) := by omega
      go_wp2_with (first
        | (refine wpList_load_run rfl _ _ rfl zb (zo + k * 5) rfl (En.cells en) HL.out _ Tryd.underlying30 rfl Tryd.sizeE ?_)
        | (refine wpList_store_fresh rfl rfl _ _ _ rfl _ rfl rfl _ rfl _ _ Tryd.sizeE (by simp [En.cells]) rfl ?_))
      refine (lterm_any b g (prev + 1 + k) _ hLa h0 h1).mono ?_
      rintro e w2 ⟨tt, ev, rfl, hev, hk2⟩
      have hX2 := hX.keep hk2 (by simp)
      have hL2 := hLa.keep0 hk2
      have hk02 := hka.trans hk2
      have hcX := hX2.cell
      have hlX := hX2.lt
      clear hX hLa hka hk2 HL
      by_cases hcond : prev + 1 + (k : Int) ≤ g.last ∧ (prev + 1 + (k : Int) ≤ commit ∨ g.at (prev + 1 + k) = en.term)
      · obtain ⟨rfl, rfl⟩ : tt = g.at (prev + 1 + k) ∧ ev = .nilIface := by
          rcases hev with h | h
          · exact ⟨h.2.2.1, h.2.2.2⟩
          · omega
        have hnext := hfs.1 hcond
        clear hev hfs
        by_cases hcm : prev + 1 + (k : Int) ≤ commit
        · go_wp2_with fail
          go_roundw
          case rel => exact ⟨k + 1, by omega, rfl, by go_num, hnext, hL2, hk02⟩
          case measure => simp [intOf]; omega
        · have heq := hcond.2.resolve_left hcm
          generalize g.at (prev + 1 + ↑k) = tx at heq
          subst heq
          go_wp2_with fail
          go_roundw
          case rel => exact ⟨k + 1, by omega, rfl, by go_num, hnext, hL2, hk02⟩
          case measure => simp [intOf]; omega
      · have hfk := hfs.2 hcond
        clear hfs
        go_upto_region 13 with (fail)
        go_cut [96] (fun v wx => v = .bool false ∧ wx = w2)
        case first =>
          rcases hev with ⟨hv1, hv2, rfl, rfl⟩ | ⟨hv, gg, rfl⟩
          · have hcm : commit < prev + 1 + (k : Int) := by omega
            have hne : ¬ (g.at (prev + 1 + k) = en.term) := fun e => hcond ⟨hv2, .inr e⟩
            go_wp2_with fail
            all_goals (go_meet; exact ⟨by simp [hcm, hne], rfl⟩)
          · go_wp2_with fail
            all_goals (go_meet; exact ⟨by simp, rfl⟩)
        case rest =>
          obtain ⟨rfl, rfl⟩ := hcut
          obtain ⟨i, z, hi, hz, hsz, hby, hzc⟩ := infoE
          obtain ⟨ao2, c2, hB2, hS2, hap2⟩ := hL2
          obtain ⟨q, hq⟩ : ∃ q : Nat, prev + 1 + (k : Int) - g.base - 1 = (q : Int) := ⟨(prev + 1 + (k : Int) - g.base - 1).toNat, by omega⟩
          have hqk : q = (prev - g.base).toNat + k := by omega
          have hcl : k = 0 ∨ prev + k ≤ g.last := by
            rcases Nat.eq_zero_or_pos k with h | h
            · exact .inl h
            · right
              obtain ⟨e0, he0⟩ : ∃ e0, l[k - 1]? = some e0 := ⟨_, List.getElem?_eq_getElem (by omega)⟩
              have h2 := g.fits_step commit (prev + 1) l (k - 1) e0 he0 (by omega)
              by_cases hc2 : prev + 1 + ((k - 1 : Nat) : Int) ≤ g.last
              · omega
              · have := h2.2 (fun h => hc2 h.1)
                omega
          have hql : q ≤ g.es.length := by omega
          have hqc : (q : Int) ≤ (c2 : Int) := by have := hS2.cap; omega
          have r1 : IntKind.u64.wrap (prev + 1 + (k : Int) - g.base) = prev + 1 + k - g.base := IntWalk.u64_in _ (by omega)
          have r2 : IntKind.u64.wrap (prev + 1 + (k : Int) - g.base - 1) = (q : Int) := by rw [hq]; exact IntWalk.u64_in _ (by omega)
          have hT2 := (hT.keep0 hk02).drop (k := k) (by omega)
          rw [if_neg (by have := hT.cap; omega : ¬ d = k)] at hT2
          simp only [Option.map_some, Addr.add_lit] at hT2
          have hdk : ¬ d = k := by have := hT.cap; omega
          have hTm := hT2.keep0 ((Keeps.refl [] wc).drew)
          have hSm := (hS2.take (k := q) (c' := q) hql (Nat.le_refl _) (by have := hS2.cap; omega)).keep0 ((Keeps.refl [] wc).drew)
          have hBa := hB2.drew
          have hka := hk02.drew
          have hc2 := hB2.cell
          have hl2 := hB2.lt
          have hlc : (k : Int) ≤ (l.length : Int) := by omega
          have hlen : (g.es.take q ++ l.drop k).length = q + (l.length - k) := by simp; omega
          have hlaid : g.laid prev l commit = { g with es := g.es.take q ++ l.drop k } := by
            unfold Lg.laid
            rw [hfk, if_neg (by omega), hqk]
          have hb1 : q < q + (l.length - k) := by omega
          have hb2 : q + (l.length - k) ≤ maxLen := by unfold maxLen; omega
          have hb3 : (q + (l.length - k)) * 48 ≤ 140737488355328 := by omega
          clear hT2 hS2 hB2 hk02 hT hTb hap2 h hL1 hk1 hX2 hcond hev hcl hq hqk hfit
          go_wp2_with fail
          go_region_law
            (first
              | (refine step_append_sl rfl _ _ 31 rfl 30 i z 5 48 Tryd.underlying31 hi hz hsz hby hzc (by decide) _ _ _ _ rfl hSm _ _ _ _ rfl hTm hb1 hb2 hb3 ?_; intro ao' c' w3 hS' hb' hk'; have hB3 := hBa.keep hk' (by simp); have hc3 := hB3.cell; have hf3 := hB3.free; have hl3 := hB3.lt))
          all_goals
            go_wp2_with fail
            go_ret3
            exact ⟨prev + 1 + k, rfl, by first | rfl | rw [hfk, if_neg (by omega)], by
              try rw [hlaid]
              refine ⟨ao', c', by rw [hlen]; exact hB3.put 2 _, ?_, fun ad e _ => ?_⟩
              · rw [hlen, ens_append, ens_take, ens_drop]
                exact hS'.keep (L := [b]) ((Keeps.refl [b] w3).set (by simp) _) (fun ad e _ => by have := (hb' ad e).1; simp at this ⊢; omega)
              · have := (hb' ad e).1
                simp at this
                omega, (hka.of_nil.trans hk'.of_nil).set (by simp) _⟩
    · have hkl : k = l.length := by omega
      subst hkl
      have hle := g.fits_le commit (prev + 1) l
      have hfe : g.fits commit (prev + 1) l = l.length := by omega
      go_wp2
      go_ret3
      exact ⟨0, rfl, by first | rfl | simp [hfe], by unfold Lg.laid; rw [if_pos hfe]; exact hLk, hkk.of_nil⟩
end Go.Proofs.YtahdclnflpkbcaaDoor
