/- The tree itself: Get. -/
import Derived.Test.YtknnhnpcgefchaaDoorTr22

namespace Go.Proofs.YtknnhnpcgefchaaDoor
open Go.RowKit Go.Lib

theorem rds1 {W : World} {F1 : World → Prop} {i1 : Nat} (h1 : F1 W) : ∀ p ∈ [(i1, F1)], p.2 W := by
  intro p hp
  simp only [List.mem_cons, List.not_mem_nil, or_false] at hp
  rcases hp with rfl
  assumption
/-- a node in which a key stands as in the whole tree -/
def GetRel (w : World) (F : Nat → Prop) (k : Bs) (l : List KV) (d b : Nat) : Prop := ∃ m f l', NdAt w F d m 16 b f l' ∧ has k l' = has k l ∧ (has k l = true → get k l' = get k l)
def blkOf : Value → Nat
  | .pointer (some a) => a.block
  | _ => 0
/-- what Get hands back -/
def GetAns (w : World) (k : Bs) (l : List KV) (e : Ending) (w' : World) : Prop :=
  Keeps [] w w' ∧ ((has k l = false ∧ e = .returned (.tuple #[.slice none 0 0, .bool false])) ∨
    (has k l = true ∧ ∃ a c, e = .returned (.tuple #[.slice a (get k l).length c, .bool true]) ∧ Rb w' a c (get k l) ∧ Fr (fun x => w.heap.size ≤ x) a (bys (get k l)) ∧ (get k l).length ≤ 1000000))
/-- the pair that stands where a key is found -/
theorem found_at {ps : List Pr} {r : Nat} {k : Bs} {l : List KV} (hkv : kvs ps = l) (hs : Srt l) (e2 : frm k l = l.drop r) (h : has k l = true) : ∃ q, ps[r]? = some q ∧ q.k = k ∧ q.v = get k l := by
  rcases hs.frm_cases (k := k) with ⟨g1, _⟩ | ⟨v', g1, g2, g3⟩
  · rw [g1] at h; cases h
  · rw [e2] at g2
    have h0 : l[r]? = some (k, v') := by
      have := congrArg (fun x => x[0]?) g2
      simpa using this
    rw [← hkv] at h0
    simp only [kvs, List.getElem?_map] at h0
    cases hq : ps[r]? with
    | none => rw [hq] at h0; cases h0
    | some q =>
      rw [hq] at h0
      simp at h0
      exact ⟨q, rfl, h0.1, by rw [g3]; exact h0.2⟩

set_option maxRecDepth 100000 in
set_option maxHeartbeats 4000000 in
theorem tget {w : World} {F : Nat → Prop} {t : Nat} {l : List KV} {ko : Option Addr} {kc : Nat} {k : Bs} (h : TreeAt w F t l) (hk : Rb w ko kc k) :
    Calls Tryd.prog 14 #[.pointer (some ⟨t, 0, none⟩), .slice ko k.length kc] w fun e w' => GetAns w k l e w' := by
  obtain ⟨⟨d0, root, hB, hN0⟩, hFt⟩ := h
  have c0 : w.cell? ⟨t, 0, none⟩ = some (.pointer (some ⟨root, 0, none⟩)) := hB.cell 0
  have hl := hB.lt
  have HST : GetRel w F k l (least (fun d => GetRel w F k l d root)) root := least_spec (p := fun d => GetRel w F k l d root) ⟨d0, _, _, _, hN0, rfl, fun _ => rfl⟩
  go_enter Tryd.func14, Tryd.ntmps14
  go_wp2_with fail
  clear c0 hl hB hN0
  go_loopw [6] (fun v wr => ∃ b, v = .pointer (some ⟨b, 0, none⟩) ∧ Keeps [] w wr ∧ GetRel w F k l (least (fun d => GetRel w F k l d b)) b) (fun v _ => least (fun d => GetRel w F k l d (blkOf v)))
  case atStart => exact ⟨root, rfl, Keeps.refl _ _, HST⟩
  case round =>
    clear HST
    obtain ⟨b, rfl, hkr, hG⟩ := hrel
    obtain ⟨d, hd⟩ : ∃ d, d = least (fun d => GetRel w F k l d b) := ⟨_, rfl⟩
    rw [← hd] at hG
    have HD := Lib.hid hd
    clear hd
    obtain ⟨m, f, l', hN, hh, hg⟩ := hG
    have HH := Lib.hid hh
    have HG := Lib.hid hg
    clear hh hg
    cases d with
    | zero =>
      obtain ⟨fo, fc, po, pc, co, cc, ps, hB, hb, hf, hff, hS, hfps, hS0, hps, hkv, hsr, hge, hm0, hM2, hfl⟩ := hN
      have hBr := hB.keep hkr (by simp)
      have hlf := nleaf hBr
      have cp : wr.cell? ⟨b, 1, none⟩ = some (.slice po ps.length pc) := hBr.cell 1
      have hbl := hBr.lt
      go_wp2_with fail
      refine hlf.mono ?_
      rintro e w2 ⟨rfl, hw⟩
      obtain rfl := hw.symm
      clear hlf
      go_wp2_with fail
      refine (nat_at (hS.keep0 hkr) (fun q hq => (hps q hq).keep0 hkr) (by rw [hkv]; exact hsr) (by omega) (hk.keep0 hkr)).mono ?_
      rintro e w2 ⟨r, rfl, hr, e1, e2, hk2⟩
      rw [hkv] at e1 e2 ⊢
      have hk02 := hkr.trans hk2
      rw [HH.out]
      clear e1
      cases his : has k l with
      | false =>
        have HIS := Lib.hid his
        clear his
        go_wp2_with fail
        go_ret2
        exact ⟨hk02, .inl ⟨HIS.out, rfl⟩⟩
      | true =>
        obtain ⟨q, hq, hqk, hqv⟩ := found_at hkv hsr e2 (by rw [HH.out, his])
        rw [HG.out his] at hqv
        have hqm := List.mem_of_getElem? hq
        have hrl := (List.getElem?_eq_some_iff.1 hq).1
        have hcap := hS.cap
        obtain ⟨bb, o, rfl⟩ := hS.at (by omega)
        have cv : w2.cell? ⟨bb, o + (r * 2 + 1), none⟩ = some (.slice q.va q.v.length q.vc) := by
          have := (hS.keep0 hk02).cells rfl _ _ (prs_at ps r q hq 1 (.slice q.va q.v.length q.vc) rfl)
          rwa [addr_add rfl] at this
        have hBr2 := hBr.keep hk2 (by simp)
        replace cp := hk2.cellSome cp (by simp)
        have hbl2 := hBr2.lt
        have hQ := (hps q hqm).keep0 hk02
        have n1 : (0 : Int) ≤ (r : Int) := by omega
        have n2 : (r : Int) < (ps.length : Int) := by omega
        have HQV := Lib.hid hqv
        have HIS := Lib.hid his
        clear his hqv hqk e2 hq hBr hbl hBr2
        rw [show o + (r * 2 + 1) = o + r * 2 + 1 by omega] at cv
        go_wp2_with fail
        refine (bclone q.va q.vc q.v _ hQ.v hQ.lv).mono ?_
        rintro e w3 ⟨a, c, rfl, hR3, hF3, hk3⟩
        go_wp2_with fail
        go_ret2
        refine ⟨hk02.trans hk3, .inr ⟨HIS.out, a, c, ?_⟩⟩
        rw [← HQV.out]
        exact ⟨rfl, hR3, fun ad e hx => Nat.le_trans hk02.size (hF3 ad e hx), hQ.lv⟩
    | succ d =>
      obtain ⟨fo, fc, po, pc, co, cc, cs, hB, hb, hf, hff, hS0, hS, hfc, hcs, hfl0, hah, hhd, hm0, hM2, hfl⟩ := hN
      have hne : cs ≠ [] := by rintro rfl; simp at hhd
      have hl0 := List.length_pos_iff.2 hne
      have z0 : (cs.length == 0) = false := by simpa using hne
      have hcap := hS.cap
      obtain ⟨bb, o, rfl⟩ := hS.at (by omega)
      have hBr := hB.keep hkr (by simp)
      have hlf := nleaf hBr
      rw [z0] at hlf
      have c2 : wr.cell? ⟨b, 2, none⟩ = some (.slice (some ⟨bb, o, none⟩) cs.length cc) := hBr.cell 2
      have hbl := hBr.lt
      go_wp2_with fail
      refine hlf.mono ?_
      rintro e w2 ⟨rfl, hw⟩
      obtain rfl := hw.symm
      clear hlf
      go_upto_region 3 with (fail)
      have HR0 : (∀ W : World, Keeps [] wr W → ∀ q ∈ [((3 : Nat), fun w0 : World => w0.cell? ⟨b, 2, none⟩ = some (.slice (some ⟨bb, o, none⟩) cs.length cc))], q.2 W) := fun W hW => rds1 (hW.cellSome c2 (by simp))
      have hkd := (Keeps.refl [] wr).drew
      have hSw := HR0 _ hkd
      have HR := Lib.hid HR0
      clear HR0
      refine startU [((3 : Nat), fun w0 : World => w0.cell? ⟨b, 2, none⟩ = some (.slice (some ⟨bb, o, none⟩) cs.length cc))] (by kernel_rfl) ?_
      refine takeU (i := 0) (v := ?_) rfl (by kernel_rfl) (fun _ _ _ h => h) (Or.inl ⟨by rfl, fun w0 hw0 => ?_⟩) (fun p hp _ => hSw p hp) ?_
      rotate_left
      · simp [Reads] at hw0
        go_simp
        try with_reducible rfl
      try go_simp
      refine takeU (i := 1) (v := ?_) rfl (by kernel_rfl) (fun _ _ _ h => h) (Or.inl ⟨by rfl, fun w0 hw0 => ?_⟩) (fun p hp _ => hSw p hp) ?_
      rotate_left
      · simp [Reads] at hw0
        go_simp
        try with_reducible rfl
      try go_simp
      refine takeU (i := 2) (v := ?_) rfl (by kernel_rfl) (fun _ _ _ h => h) (Or.inl ⟨by rfl, fun w0 hw0 => ?_⟩) (fun p hp _ => hSw p hp) ?_
      rotate_left
      · simp [Reads] at hw0
        go_simp
        try with_reducible rfl
      try go_simp
      refine takeU (i := 3) (v := ?_) rfl (by kernel_rfl) (fun _ _ _ h => h) (Or.inl ⟨by rfl, fun w0 hw0 => ?_⟩) (fun p hp _ => hSw p hp) ?_
      rotate_left
      · simp [Reads] at hw0
        go_simp
        try with_reducible rfl
      try go_simp
      refine takeU (i := 4) (v := ?_) rfl (by kernel_rfl) (fun _ _ _ h => h) (Or.inl ⟨by rfl, fun w0 hw0 => ?_⟩) (fun p hp _ => hSw p hp) ?_
      rotate_left
      · simp [Reads] at hw0
        go_simp
        try with_reducible rfl
      try go_simp
      refine takeU (i := 5) (v := ?_) rfl (by kernel_rfl) (fun _ _ _ h => h) (Or.inl ⟨by rfl, fun w0 hw0 => ?_⟩) (fun p hp _ => hSw p hp) ?_
      rotate_left
      · simp [Reads] at hw0
        go_simp
        try with_reducible rfl
      try go_simp
      clear hSw
      refine oneU (i := 6) rfl (by kernel_rfl) (fun K hK => ?_)
      rw [if_pos (show Region.wanted _ _ = true from rfl)]
      go_wp2_with fail
      refine (nchild (hBr.keep hkd (by simp)) (hS.keep0 (hkr.trans hkd)) (fun c hc => (hcs c hc).keep0 (hkr.trans hkd)) hah hne (by omega) (hk.keep0 (hkr.trans hkd))).mono ?_
      rintro e w3 ⟨i, c, rfl, hci, hor, hup, hk3⟩
      have hil := (List.getElem?_eq_some_iff.1 hci).1
      have hcm := List.mem_of_getElem? hci
      obtain ⟨s1, s2, s3⟩ := child_sides hah (fun x hx => (hcs x hx).ord.2) hci hor hup
      have hk03 := (hkr.trans hkd).trans hk3
      have cp : w3.cell? ⟨bb, o + i, none⟩ = some (.pointer (some ⟨c.b, 0, none⟩)) := by
        have := ((hS.keep0 hk03).cells rfl i (.pointer (some ⟨c.b, 0, none⟩)) (by simp [ptrs, hci]))
        rwa [addr_add rfl] at this
      have p0 : (0 : Int) ≤ (i : Int) := by omega
      have p1 : (i : Int) < (cs.length : Int) := by omega
      have hnew : GetRel w F k l d c.b := by
        refine ⟨4, c.f, c.l, hcs c hcm, ?_, fun h => ?_⟩
        · rw [← HH.out, ← hfl0, s3, has_mid s1 s2]
        · rw [← HG.out h, ← hfl0, s3, get_mid s1 ?_]
          rw [← HH.out, ← hfl0, s3, has_mid s1 s2] at h
          exact h
      clear hor hup hci s1 s2 s3
      simp only []
      refine hK _ _ (fun q hq _ _ => HR.out _ (hkd.trans hk3) q hq) ?_
      clear hK K
      try go_simp
      refine oneU (i := 7) rfl (by kernel_rfl) (fun K hK => ?_)
      rw [if_pos (show Region.wanted _ _ = true from rfl)]
      go_wp2_with fail
      refine hK _ _ (fun q hq _ _ => HR.out _ (hkd.trans hk3) q hq) ?_
      clear hK K
      try go_simp
      refine oneU (i := 8) rfl (by kernel_rfl) (fun K hK => ?_)
      rw [if_pos (show Region.wanted _ _ = true from rfl)]
      go_wp2_with fail
      refine hK _ _ (fun q hq _ _ => HR.out _ (hkd.trans hk3) q hq) ?_
      clear hK K
      try go_simp
      refine oneU (i := 9) rfl (by kernel_rfl) (fun K hK => ?_)
      rw [if_pos (show Region.wanted _ _ = true from rfl)]
      go_wp2_with fail
      refine hK _ _ (fun q hq _ _ => HR.out _ (hkd.trans hk3) q hq) ?_
      clear hK K
      try go_simp
      refine doneU (by kernel_rfl) ?_
      go_wp2_with fail
      go_roundw
      case rel =>
        exact ⟨c.b, rfl, hk03, least_spec (p := fun d => GetRel w F k l d c.b) ⟨d, hnew⟩⟩
      case measure =>
        have e1 := HD.out
        have e2 := least_le (p := fun d => GetRel w F k l d c.b) hnew
        simp only [blkOf]
        omega
end Go.Proofs.YtknnhnpcgefchaaDoor
