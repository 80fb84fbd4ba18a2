/- A tree's nodes: del, of a leaf. -/
import Derived.Test.YtknnhnpcgefchaaDoorTr24
import Derived.Test.YtknnhnpcgefchaaDoorTr16

namespace Go.Proofs.YtknnhnpcgefchaaDoor
open Go.RowKit Go.Lib

/-- what del hands back -/
def DelPost (w : World) (F : Nat → Prop) (d m : Nat) (f : Bs) (l : List KV) (k : Bs) (e : Ending) (w' : World) : Prop :=
  ∃ g, e = .returned (.pointer (some ⟨g, 0, none⟩)) ∧ NdAt w' (Grown F w) d (m - 1) 16 g f (del k l) ∧ Keeps [] w w'

theorem del_kvs {ps : List Pr} {k : Bs} {r : Nat} {l : List KV} (hkv : kvs ps = l) (hs : Srt l) (e1 : lo k l = l.take r) (e2 : frm k l = l.drop r) (h : has k l = true) : kvs (ps.take r ++ ps.drop (r + 1)) = del k l := by
  have hh : hi k l = l.drop (r + 1) := by
    rcases hs.frm_cases (k := k) with ⟨g1, _⟩ | ⟨v', _, g2, _⟩
    · rw [g1] at h; cases h
    · have : l.drop (r + 1) = (l.drop r).drop 1 := by rw [List.drop_drop]
      rw [this, ← e2, g2]
      rfl
  unfold del
  rw [e1, hh, ← hkv]
  simp [kvs, List.map_take, List.map_drop]

set_option maxRecDepth 100000 in
set_option maxHeartbeats 4000000 in
theorem ndel0 {w : World} {F : Nat → Prop} {m b : Nat} {f : Bs} {l : List KV} {ko : Option Addr} {kc : Nat} {k : Bs} (h : NdAt w F 0 m 16 b f l) (hk : Rb w ko kc k) (hh : has k l = true) :
    Calls Tryd.prog 22 #[.pointer (some ⟨b, 0, none⟩), .slice ko k.length kc] w fun e w' => DelPost w F 0 m f l k e w' := by
  obtain ⟨fo, fc, po, pc, co, cc, ps, hB, hb, hf, hff, hS, hfps, hS0, hps, hkv, hsr, hge, hm0, hM2, hfl⟩ := h
  have hlf := nleaf hB
  have hl := hB.lt
  have c1 : w.cell? ⟨b, 1, none⟩ = some (.slice po ps.length pc) := hB.cell 1
  have c0 : w.cell? ⟨b, 0, none⟩ = some (.slice fo f.length fc) := hB.cell 0
  go_enter Tryd.func22, Tryd.ntmps22
  go_wp2_with fail
  refine hlf.mono ?_
  rintro e w1 ⟨rfl, hw⟩
  obtain rfl := hw.symm
  clear hlf
  go_wp2_with fail
  refine (nat_at hS hps (by rw [hkv]; exact hsr) (by omega) hk).mono ?_
  rintro e w1 ⟨r, rfl, hr, e1, e2, hk1⟩
  rw [hkv] at e1 e2 ⊢
  obtain ⟨q, hq, _, _⟩ := found_at hkv hsr e2 hh
  have hrl := (List.getElem?_eq_some_iff.1 hq).1
  rw [hh]
  have hfin := del_kvs hkv hsr e1 e2 hh
  have HF := Lib.hid hfin
  clear hfin e1 e2 hq
  have q5 : IntKind.i64.wrap ((r : Int) + 1) = (r : Int) + 1 := IntWalk.i64_in _ (by omega)
  go_upto_region 3 with (fail)
  have HR0 : (∀ W : World, Keeps [] w1 W → ∀ q ∈ [((3 : Nat), fun w0 : World => w0.cell? ⟨b, 0, none⟩ = some (.slice fo f.length fc)), ((7 : Nat), fun w0 : World => w0.cell? ⟨b, 1, none⟩ = some (.slice po ps.length pc))], q.2 W) := fun W hW => rds2 ((hk1.trans hW).cellSome c0 (by simp)) ((hk1.trans hW).cellSome c1 (by simp))
  have hkd := (Keeps.refl [] w1).drew
  have hSw := HR0 _ hkd
  have HR := Lib.hid HR0
  clear HR0 c0 c1
  refine startU [((3 : Nat), fun w0 : World => w0.cell? ⟨b, 0, none⟩ = some (.slice fo f.length fc)), ((7 : Nat), fun w0 : World => w0.cell? ⟨b, 1, none⟩ = some (.slice po ps.length pc))] (by kernel_rfl) ?_
  generalize w1.drew = w2 at *
  refine takeU (i := 0) (v := ?_) rfl (by kernel_rfl) (fun _ _ _ h => h) (Or.inl ⟨by rfl, fun w0 hw0 => ?_⟩) (fun p hp _ => hSw p hp) ?_
  rotate_left
  · simp [Reads] at hw0
    go_simp
    try with_reducible rfl
  try go_simp
  refine takeU (i := 1) (v := ?_) rfl (by kernel_rfl) (fun _ _ _ h => h) (Or.inl ⟨by rfl, fun w0 hw0 => ?_⟩) (fun p hp _ => hSw p hp) ?_
  rotate_left
  · simp [Reads] at hw0
    go_simp
    try with_reducible rfl
  try go_simp
  refine takeU (i := 2) (v := ?_) rfl (by kernel_rfl) (fun _ _ _ h => h) (Or.inl ⟨by rfl, fun w0 hw0 => ?_⟩) (fun p hp _ => hSw p hp) ?_
  rotate_left
  · simp [Reads] at hw0
    go_simp
    try with_reducible rfl
  try go_simp
  refine takeU (i := 3) (v := ?_) rfl (by kernel_rfl) (fun _ _ _ h => h) (Or.inl ⟨by rfl, fun w0 hw0 => ?_⟩) (fun p hp _ => hSw p hp) ?_
  rotate_left
  · simp [Reads] at hw0
    go_simp
    try with_reducible rfl
  try go_simp
  refine takeU (i := 4) (v := ?_) rfl (by kernel_rfl) (fun _ _ _ h => h) (Or.inl ⟨by rfl, fun w0 hw0 => ?_⟩) (fun p hp _ => hSw p hp) ?_
  rotate_left
  · simp [Reads] at hw0
    go_simp
    try with_reducible rfl
  try go_simp
  refine takeU (i := 5) (v := ?_) rfl (by kernel_rfl) (fun _ _ _ h => h) (Or.inl ⟨by rfl, fun w0 hw0 => ?_⟩) (fun p hp _ => hSw p hp) ?_
  rotate_left
  · simp [Reads] at hw0
    go_simp
    try with_reducible rfl
  try go_simp
  refine takeU (i := 6) (v := ?_) rfl (by kernel_rfl) (fun _ _ _ h => h) (Or.inl ⟨by rfl, fun w0 hw0 => ?_⟩) (fun p hp _ => hSw p hp) ?_
  rotate_left
  · simp [Reads] at hw0
    go_simp
    try with_reducible rfl
  try go_simp
  refine takeU (i := 7) (v := ?_) rfl (by kernel_rfl) (fun _ _ _ h => h) (Or.inl ⟨by rfl, fun w0 hw0 => ?_⟩) (fun p hp _ => hSw p hp) ?_
  rotate_left
  · simp [Reads] at hw0
    go_simp
    try with_reducible rfl
  try go_simp
  refine takeU (i := 9) (v := ?_) rfl (by kernel_rfl) (fun _ _ _ h => h) (Or.inl ⟨by rfl, fun w0 hw0 => ?_⟩) (fun p hp _ => hSw p hp) ?_
  rotate_left
  · simp [Reads] at hw0
    go_simp
    try with_reducible rfl
  try go_simp
  refine takeU (i := 10) (v := ?_) rfl (by kernel_rfl) (fun _ _ _ h => h) (Or.inl ⟨by rfl, fun w0 hw0 => ?_⟩) (fun p hp _ => hSw p hp) ?_
  rotate_left
  · simp [Reads] at hw0
    go_simp
    try with_reducible rfl
  try go_simp
  refine takeU (i := 11) (v := ?_) rfl (by kernel_rfl) (fun _ _ _ h => h) (Or.inl ⟨by rfl, fun w0 hw0 => ?_⟩) (fun p hp _ => hSw p hp) ?_
  rotate_left
  · simp [Reads] at hw0
    go_simp
    try with_reducible rfl
  try go_simp
  clear hSw
  refine oneU (i := 8) rfl (by kernel_rfl) (fun K hK => ?_)
  rw [if_pos (show Region.wanted _ _ = true from rfl)]
  go_wp2_with fail
  have hk02 := hk1.trans hkd
  refine (cloneP po ps.length pc (prs ps) w2 (hS.keep0 hk02) (by omega)).mono ?_
  rintro e w3 ⟨ao, c, rfl, hO, hk3⟩
  have hk13 := hkd.trans hk3
  simp only []
  refine hK _ _ (fun q hq _ _ => HR.out _ hk13 q hq) ?_
  clear hK K
  try go_simp
  obtain ⟨g, cur, rfl, hNg, hBg, hcsz, hnc, hcm, htk⟩ := ownsRow_blk hO (by omega) (by decide)
  have HD := delP w2.heap.size g c (ps.length - 1) r (prs ps) w3 (by omega) (by omega) (by rw [show ps.length - 1 + 1 = ps.length by omega]; exact hO) (prs_one _)
  rw [show ps.length - 1 + 1 = ps.length by omega] at HD
  have hlen : (ps.take r ++ ps.drop (r + 1)).length = ps.length - 1 := by
    rw [List.length_append, List.length_take, List.length_drop]; omega
  have hpr : (prs ps).take (r * 2) ++ (prs ps).drop ((r + 1) * 2) = prs (ps.take r ++ ps.drop (r + 1)) := by rw [prs_app, prs_take, prs_drop]
  rw [hpr] at HD
  clear hpr hBg hcsz htk
  have HL := Lib.hid hlen
  clear hlen
  obtain ⟨n1, hn1⟩ : ∃ n1, n1 = ps.length - 1 := ⟨_, rfl⟩
  rw [← hn1] at HD
  refine oneU (i := 12) rfl (by kernel_rfl) (fun K hK => ?_)
  have HN1 := Lib.hid hn1
  clear hn1
  rw [if_pos (show Region.wanted _ _ = true from rfl)]
  go_wp2_with fail
  refine HD.mono ?_
  rintro e w4 ⟨rfl, hO4, hk4⟩
  clear HD
  have hk14 : Keeps [] w1 w4 := hk13.step hk4 (fun x hx => by simp at hx; subst hx; exact .inr (Nat.le_trans hkd.size hNg))
  simp only []
  refine hK _ _ (fun q hq _ _ => HR.out _ hk14 q hq) ?_
  clear hK K
  try go_simp
  have bF := built_L fo (some ⟨g, 0, none⟩) f.length fc n1 c
  have hSw := HR.out _ hk14
  refine takeU (i := 13) (v := ?_) rfl (by kernel_rfl) (fun _ _ _ h => h) (Or.inl ⟨by rfl, fun w0 hw0 => ?_⟩) (fun p hp _ => hSw p hp) ?_
  rotate_left
  · simp [Reads] at hw0
    go_simp
    try with_reducible rfl
  try go_simp
  clear hSw
  refine oneU (i := 14) rfl (by kernel_rfl) (fun K hK => ?_)
  go_simp
  refine hK _ _ (fun q hq _ _ => HR.out _ (hk14.alloc _) q hq) ?_
  clear hK K
  try go_simp
  have hSw := HR.out _ (hk14.alloc (.cells #[.slice fo f.length fc, .slice (some ⟨g, 0, none⟩) n1 c, .slice none 0 0] 55))
  refine takeU (i := 15) (v := ?_) rfl (by kernel_rfl) (fun _ _ _ h => h) (Or.inl ⟨by rfl, fun w0 hw0 => ?_⟩) (fun p hp _ => hSw p hp) ?_
  rotate_left
  · simp [Reads] at hw0
    go_simp
    try with_reducible rfl
  try go_simp
  clear hSw
  refine doneU (by kernel_rfl) ?_
  go_wp2_with fail
  go_ret
  have hk04 := hk1.trans hk14
  have hkN := hk04.alloc (.cells #[.slice fo f.length fc, .slice (some ⟨g, 0, none⟩) n1 c, .slice none 0 0] 55)
  have hBN := Blk.fresh w4 55 #[.slice fo f.length fc, .slice (some ⟨g, 0, none⟩) n1 c, .slice none 0 0]
  have hOn := own_older (own_keep hO4 ((Keeps.refl [] w4).alloc (.cells #[.slice fo f.length fc, .slice (some ⟨g, 0, none⟩) n1 c, .slice none 0 0] 55)) (by simp)) hk02.size
  have e3 : n1 = (ps.take r ++ ps.drop (r + 1)).length := by rw [HL.out, HN1.out]
  rw [e3] at hBN hOn
  have gF : ∀ x, F x → x < w.heap.size → Grown F w x := fun _ h _ => .inl h
  refine ⟨w4.heap.size, rfl, ⟨fo, fc, some ⟨g, 0, none⟩, c, none, 0, ps.take r ++ ps.drop (r + 1), ?_, .inr hk04.size, hf.keep0 hkN, hff.mono hf gF, ?_, fun ad e _ => .inr ?_, Sl.none _ _, fun q hq => ?_, HF.out, hsr.del, fun q hq => hge q (del_mem hq), by rw [HL.out]; omega, by rw [HL.out]; omega, hfl⟩, ?_⟩
  · rw [e3]; exact hBN
  · rw [e3]; exact own_read hOn (prs_one _)
  · cases e
    exact (own_lt hOn g (by simp)).1
  · have : q ∈ ps := by
      rcases List.mem_append.1 hq with hq | hq
      · exact List.mem_of_mem_take hq
      · exact List.mem_of_mem_drop hq
    rw [e3]
    rw [e3] at hkN
    exact ((hps q this).mono gF).keep0 hkN
  · exact hkN
end Go.Proofs.YtknnhnpcgefchaaDoor
