/- A tree's nodes: put. -/
import Derived.Test.YtknnhnpcgefchaaDoorTr13
import Derived.Test.YtknnhnpcgefchaaDoorTr4
import Derived.Test.YtknnhnpcgefchaaDoorTr8
import Derived.Test.YtknnhnpcgefchaaDoorLit

namespace Go.Proofs.YtknnhnpcgefchaaDoor
open Go.RowKit Go.Lib

/-- what put hands back -/
def PutPost (w : World) (F : Nat → Prop) (d m : Nat) (f : Bs) (l : List KV) (k v : Bs) (e : Ending) (w' : World) : Prop :=
  ∃ g cs, e = .returned (.tuple #[.slice (some ⟨g, 0, none⟩) cs.length cs.length, .bool (!has k l)]) ∧ Parted w w' F d m f (ins k v l) g cs

theorem rds2 {W : World} {F1 F2 : World → Prop} {i1 i2 : Nat} (h1 : F1 W) (h2 : F2 W) : ∀ p ∈ [(i1, F1), (i2, F2)], p.2 W := by
  intro p hp
  simp only [List.mem_cons, List.not_mem_nil, or_false] at hp
  rcases hp with rfl | rfl <;> assumption

theorem Parted.back {w w1 w' : World} {F : Nat → Prop} {d m g : Nat} {f : Bs} {l : List KV} {cs : List Nd} (hk : Keeps [] w w1) (h : Parted w1 w' (Grown F w) d m f l g cs) : Parted w w' F d m f l g cs :=
  ⟨h.blk, Nat.le_trans hk.size h.new, h.len, fun c hc => (h.at_ c hc).mono fun x hx _ => by
    rcases hx with (hx | hx) | hx
    · exact .inl hx
    · exact .inr hx
    · exact .inr (Nat.le_trans hk.size hx), h.ahd, h.head, h.flat, hk.trans h.keeps⟩
/-- a leaf's pairs behind put -/
def setPr (ps : List Pr) (p : Pr) (r : Nat) (is : Bool) : List Pr := ps.take r ++ p :: ps.drop (r + if is then 1 else 0)
theorem setPr_kvs {ps : List Pr} {p : Pr} {r : Nat} {l : List KV} (hkv : kvs ps = l) (hs : Srt l) (e1 : lo p.k l = l.take r) (e2 : frm p.k l = l.drop r) : kvs (setPr ps p r (has p.k l)) = ins p.k p.v l := by
  have hh : hi p.k l = l.drop (r + if has p.k l then 1 else 0) := by
    rcases hs.frm_cases (k := p.k) with ⟨g1, g2⟩ | ⟨v', g1, g2, _⟩
    · rw [g1, ← g2, e2]
      simp
    · rw [g1]
      have : l.drop (r + 1) = (l.drop r).drop 1 := by rw [List.drop_drop]
      rw [if_pos rfl, this, ← e2, g2]
      rfl
  unfold setPr ins
  rw [e1, hh, ← hkv]
  simp [kvs, List.map_take, List.map_drop]
theorem setPr_len {ps : List Pr} {p : Pr} {r : Nat} {is : Bool} (hr : r ≤ ps.length) (h : is = true → r < ps.length) : (setPr ps p r is).length = ps.length + if is then 0 else 1 := by
  unfold setPr
  cases is
  · simp; omega
  · have := h rfl
    simp; omega
theorem setPr_mem {ps : List Pr} {p q : Pr} {r : Nat} {is : Bool} (h : q ∈ setPr ps p r is) : q = p ∨ q ∈ ps := by
  unfold setPr at h
  rcases List.mem_append.1 h with h | h
  · exact .inr (List.mem_of_mem_take h)
  · rcases List.mem_cons.1 h with h | h
    · exact .inl h
    · exact .inr (List.mem_of_mem_drop h)
theorem setPr_set {ps : List Pr} {p : Pr} {r : Nat} (_hr : r < ps.length) : (prs ps).take (r * 2) ++ p.cells.toList ++ (prs ps).drop (r * 2 + 2) = prs (setPr ps p r true) := by
  unfold setPr
  rw [prs_app, prs_cons, prs_take, show r * 2 + 2 = (r + 1) * 2 by omega, prs_drop]
  simp
theorem setPr_ins {ps : List Pr} {p : Pr} {r : Nat} : (prs ps).take (r * 2) ++ p.cells.toList ++ (prs ps).drop (r * 2) = prs (setPr ps p r false) := by
  unfold setPr
  rw [prs_app, prs_cons, prs_take, prs_drop]
  simp
/-- the new leaf -/
theorem leaf_made {w w' : World} {F : Nat → Prop} {nb r : Nat} {f : Bs} {l : List KV} {p : Pr} {ps : List Pr} {fo po : Option Addr} {fc pc : Nat} {is : Bool} (hk : Keeps [] w w')
    (hB : Blk w' nb 55 #[.slice fo f.length fc, .slice po (setPr ps p r is).length pc, .slice none 0 0]) (hnb : w.heap.size ≤ nb) (hf : Rb w fo fc f) (hff : Fr F fo (bys f)) (hfl : f.length ≤ 1000000)
    (hO : w'.ownsRow w.heap.size 64 2 (.slice po (setPr ps p r is).length pc) (setPr ps p r is).length (prs (setPr ps p r is)))
    (hps : ∀ q ∈ ps, PrOk w F q) (hp : PrOk w F p) (hkv : kvs ps = l) (hs : Srt l) (hge : ∀ q ∈ l, ltB q.1 f = false) (hfp : ltB p.k f = false) (e1 : lo p.k l = l.take r) (e2 : frm p.k l = l.drop r) (his : is = has p.k l) (m : Nat) (hm : m ≤ (setPr ps p r is).length) (hlen : (setPr ps p r is).length ≤ 17) :
    NdAt w' (Grown F w) 0 m 17 nb f (ins p.k p.v l) := by
  have gF : ∀ x, F x → x < w.heap.size → Grown F w x := fun _ h _ => .inl h
  have hS := own_read hO (prs_one _)
  refine ⟨fo, fc, po, pc, none, 0, setPr ps p r is, hB, .inr hnb, hf.keep0 hk, hff.mono hf gF, hS, fun ad e _ => .inr ?_, Sl.none _ _, fun q hq => ?_, by rw [his]; exact setPr_kvs hkv hs e1 e2, hs.ins _, fun q hq => ?_, hm, hlen, hfl⟩
  · subst e
    exact (own_lt hO ad.block (by simp)).1
  · rcases setPr_mem hq with rfl | hq
    · exact (hp.mono gF).keep0 hk
    · exact ((hps q hq).mono gF).keep0 hk
  · rcases ins_mem hq with rfl | hq
    · exact hfp
    · exact hge q hq

set_option maxRecDepth 100000 in
set_option maxHeartbeats 4000000 in
theorem nput0 {w : World} {F : Nat → Prop} {m b : Nat} {f : Bs} {l : List KV} {p : Pr} (h : NdAt w F 0 m 16 b f l) (hp : PrOk w F p) (hfp : ltB p.k f = false) :
    Calls Tryd.prog 21 #[.pointer (some ⟨b, 0, none⟩), .agg p.cells] w fun e w' => PutPost w F 0 m f l p.k p.v e w' := by
  have H := h
  obtain ⟨fo, fc, po, pc, co, cc, ps, hB, hb, hf, hff, hS, hfps, hS0, hps, hkv, hsr, hge, hm0, hM2, hfl⟩ := H
  have hX := Blk.fresh w 64 p.cells
  have hk0 := (Keeps.refl [] w).alloc (.cells p.cells 64)
  go_enter Tryd.func21, Tryd.ntmps21
  go_upto_region 1 with (fail)
  generalize hw1 : World.alloc w _ = w1 at *
  generalize hxs : w.heap.size = xb at *
  have hB1 := hB.keep hk0 (by simp)
  have hlf := nleaf hB1
  go_wp2_with fail
  refine hlf.mono ?_
  rintro e w2 ⟨rfl, hw⟩
  obtain rfl := hw.symm
  clear hlf
  have hl := hB1.lt
  have hlx := hX.lt
  have c1 : w1.cell? ⟨b, 1, none⟩ = some (.slice po ps.length pc) := hB1.cell 1
  have ck : w1.cell? ⟨xb, 0, none⟩ = some (.slice p.ka p.k.length p.kc) := hX.cell 0
  go_upto_region 2 with (fail)
  have HR0 : (∀ W : World, Keeps [] w1 W → ∀ q ∈ [((3 : Nat), fun w0 : World => w0.cell? ⟨b, 1, none⟩ = some (.slice po ps.length pc)), ((5 : Nat), fun w0 : World => w0.cell? ⟨xb, 0, none⟩ = some (.slice p.ka p.k.length p.kc))], q.2 W) :=
    fun W hW => rds2 (hW.cellSome c1 (by simp)) (hW.cellSome ck (by simp))
  have hkd := (Keeps.refl [] w1).drew
  have hSw := HR0 _ hkd
  have HR := Lib.hid HR0
  clear HR0
  refine startU [((3 : Nat), fun w0 : World => w0.cell? ⟨b, 1, none⟩ = some (.slice po ps.length pc)), ((5 : Nat), fun w0 : World => w0.cell? ⟨xb, 0, none⟩ = some (.slice p.ka p.k.length p.kc))] (by kernel_rfl) ?_
  refine takeU (i := 0) (v := ?_) rfl (by kernel_rfl) (fun _ _ _ h => h) (Or.inl ⟨by rfl, fun w0 hw0 => ?_⟩) (fun p hp _ => hSw p hp) ?_
  rotate_left
  · simp [Reads] at hw0
    go_simp
    try with_reducible rfl
  try go_simp
  refine takeU (i := 1) (v := ?_) rfl (by kernel_rfl) (fun _ _ _ h => h) (Or.inl ⟨by rfl, fun w0 hw0 => ?_⟩) (fun p hp _ => hSw p hp) ?_
  rotate_left
  · simp [Reads] at hw0
    go_simp
    try with_reducible rfl
  try go_simp
  refine takeU (i := 2) (v := ?_) rfl (by kernel_rfl) (fun _ _ _ h => h) (Or.inl ⟨by rfl, fun w0 hw0 => ?_⟩) (fun p hp _ => hSw p hp) ?_
  rotate_left
  · simp [Reads] at hw0
    go_simp
    try with_reducible rfl
  try go_simp
  refine takeU (i := 3) (v := ?_) rfl (by kernel_rfl) (fun _ _ _ h => h) (Or.inl ⟨by rfl, fun w0 hw0 => ?_⟩) (fun p hp _ => hSw p hp) ?_
  rotate_left
  · simp [Reads] at hw0
    go_simp
    try with_reducible rfl
  try go_simp
  refine takeU (i := 4) (v := ?_) rfl (by kernel_rfl) (fun _ _ _ h => h) (Or.inl ⟨by rfl, fun w0 hw0 => ?_⟩) (fun p hp _ => hSw p hp) ?_
  rotate_left
  · simp [Reads] at hw0
    go_simp
    try with_reducible rfl
  try go_simp
  refine takeU (i := 5) (v := ?_) rfl (by kernel_rfl) (fun _ _ _ h => h) (Or.inl ⟨by rfl, fun w0 hw0 => ?_⟩) (fun p hp _ => hSw p hp) ?_
  rotate_left
  · simp [Reads] at hw0
    go_simp
    try with_reducible rfl
  try go_simp
  refine oneU (i := 6) rfl (by kernel_rfl) (fun K hK => ?_)
  go_wp2_with fail
  have hp1 : PrOk w1 F p := hp.keep hk0 (by simp)
  refine (nat_at (hS.keep0 (hk0.trans hkd)) (fun q hq => (hps q hq).keep (hk0.trans hkd) (by simp)) (by rw [hkv]; exact hsr) (by omega) (hp1.k.keep0 hkd)).mono ?_
  rintro e w2 ⟨r, rfl, hr, e1, e2, hk2⟩
  rw [hkv] at e1 e2 ⊢
  have E1 := Lib.hid e1
  have E2 := Lib.hid e2
  obtain ⟨is, his⟩ : ∃ is, is = has p.k l := ⟨_, rfl⟩
  have HIS := Lib.hid his
  have hrl : is = true → r < ps.length := fun h => by
    rw [his] at h
    rcases hsr.frm_cases (k := p.k) with ⟨g1, _⟩ | ⟨v', g1, g2, _⟩
    · rw [g1] at h; cases h
    · rw [e2] at g2
      have := congrArg List.length g2
      rw [List.length_drop, ← hkv, kvs_length] at this
      simp at this
      omega
  rw [← his]
  clear e1 e2 his
  simp only []
  refine hK _ _ (fun q hq _ _ => HR.out _ (hkd.trans hk2) q hq) ?_
  clear hK K
  replace hSw := HR.out _ (hkd.trans hk2)
  refine takeU (i := 7) (v := ?_) rfl (by kernel_rfl) (fun _ _ _ h => h) (Or.inl ⟨by rfl, fun w0 hw0 => ?_⟩) (fun p hp _ => hSw p hp) ?_
  rotate_left
  · simp [Reads] at hw0
    go_simp
    try with_reducible rfl
  try go_simp
  refine takeU (i := 8) (v := ?_) rfl (by kernel_rfl) (fun _ _ _ h => h) (Or.inl ⟨by rfl, fun w0 hw0 => ?_⟩) (fun p hp _ => hSw p hp) ?_
  rotate_left
  · simp [Reads] at hw0
    go_simp
    try with_reducible rfl
  try go_simp
  refine takeU (i := 9) (v := ?_) rfl (by kernel_rfl) (fun _ _ _ h => h) (Or.inl ⟨by rfl, fun w0 hw0 => ?_⟩) (fun p hp _ => hSw p hp) ?_
  rotate_left
  · simp [Reads] at hw0
    go_simp
    try with_reducible rfl
  try go_simp
  refine takeU (i := 10) (v := ?_) rfl (by kernel_rfl) (fun _ _ _ h => h) (Or.inl ⟨by rfl, fun w0 hw0 => ?_⟩) (fun p hp _ => hSw p hp) ?_
  rotate_left
  · simp [Reads] at hw0
    go_simp
    try with_reducible rfl
  try go_simp
  refine takeU (i := 11) (v := ?_) rfl (by kernel_rfl) (fun _ _ _ h => h) (Or.inl ⟨by rfl, fun w0 hw0 => ?_⟩) (fun p hp _ => hSw p hp) ?_
  rotate_left
  · simp [Reads] at hw0
    go_simp
    try with_reducible rfl
  try go_simp
  refine doneU (by kernel_rfl) ?_
  have hk02 := hk0.trans (hkd.trans hk2)
  have hB2 := hB.keep hk02 (by simp)
  have hX2 := hX.keep (hkd.trans hk2) (by simp)
  clear hSw HR hB1 hX hl hlx c1 ck hkd hk2 hk0 hp1
  have c1 : w2.cell? ⟨b, 1, none⟩ = some (.slice po ps.length pc) := hB2.cell 1
  go_wp2_with fail
  refine (cloneP po ps.length pc (prs ps) w2 (hS.keep0 hk02) (by omega)).mono ?_
  rintro e w3 ⟨ao, c, rfl, hO, hk3⟩
  replace hB2 := hB2.keep hk3 (by simp)
  replace hX2 := hX2.keep hk3 (by simp)
  have hxlt := hX2.lt
  have hnew := own_lt hO
  have hN2 : w.heap.size ≤ w2.heap.size := hk02.size
  have hk03 := hk02.trans hk3
  clear c1 hk02
  have c0 : w3.cell? ⟨b, 0, none⟩ = some (.slice fo f.length fc) := hB2.cell 0
  have hbl := hB2.lt
  have p0 : (0 : Int) ≤ (r : Int) := by omega
  have hcs := hX2.cell
  cases is
  · have hlen := setPr_len (p := p) (is := false) hr (by simp)
    simp only [Bool.false_eq_true, if_false] at hlen
    obtain ⟨iP, zP, hiP, hzP, hszP, hbyP, hzcP, hz1P⟩ := infoTP
    go_upto_region 7 with (first
      | (refine wpList_load_agg rfl 64 _ rfl xb 0 2 rfl 64 p.cells _ hX2 Tryd.underlying64 rfl Tryd.sizePr (by simp) p.cells rfl ?_)
      | (refine wpList_slice1 rfl 52 64 _ rfl iP zP (.agg p.cells) 2 Tryd.underlying52 hiP hzP hszP rfl rfl (by omega) (by omega) ?_))
    have hkV := (Keeps.refl [] w3).alloc (.cells p.cells 64)
    have hV := Blk.fresh w3 64 p.cells
    have hOv := own_keep hO hkV (by simp)
    change Calls _ _ _ (w3.alloc (.cells p.cells 64)) _
    refine (insP w2.heap.size ao ps.length c r w3.heap.size (prs ps) p.cells (w3.alloc (.cells p.cells 64)) hOv (prs_one _) hr (by omega) hV rfl (by simp [Value.oneCell']) (fun x hx => by have := (hnew x hx).2; omega) (Nat.le_trans hk3.size hkV.size)).mono ?_
    rintro e w5 ⟨ao', c', rfl, hO5, _, hk5⟩
    rw [setPr_ins (r := r)] at hO5
    have hk05 : Keeps [] w w5 := (hk03.trans hkV).step hk5 (fun x hx => .inr (Nat.le_trans hN2 (hnew x hx).1))
    have hB5 := hB.keep hk05 (by simp)
    clear hB2 hX2 hcs c0 hO hOv hV hkV hk5 hk3 hbl hxlt hnew
    have c0 : w5.cell? ⟨b, 0, none⟩ = some (.slice fo f.length fc) := hB5.cell 0
    have hbl := hB5.lt
    rw [← hlen] at hO5
    have bF := built_L fo ao' f.length fc (ps.length + 1) c'
    go_wp2_with fail
    have hkN := hk05.alloc (.cells #[.slice fo f.length fc, .slice ao' (ps.length + 1) c', .slice none 0 0] 55)
    have hBN := Blk.fresh w5 55 #[.slice fo f.length fc, .slice ao' (ps.length + 1) c', .slice none 0 0]
    rw [← hlen] at hBN
    have hOn := own_older (own_keep hO5 ((Keeps.refl [] w5).alloc (.cells #[.slice fo f.length fc, .slice ao' (ps.length + 1) c', .slice none 0 0] 55)) (by simp)) hN2
    have hNd := leaf_made hkN (by simpa [hlen] using hBN) hk05.size hf hff hfl hOn hps hp hkv hsr hge hfp E1.out E2.out HIS.out m (by omega) (by omega)
    refine (nparted hNd (by omega)).mono ?_
    rintro e w7 ⟨g, cs, rfl, hP⟩
    go_wp2_with fail
    go_ret2
    exact ⟨g, cs, by rw [← HIS.out]; rfl, hP.back hkN⟩
  · have hrr := hrl rfl
    have hlen := setPr_len (p := p) (is := true) hr (fun _ => hrr)
    simp only [if_true, Nat.add_zero] at hlen
    obtain ⟨g, cur, hao, hNg, hBg, hcsz, hnc, hcm, htk⟩ := ownsRow_blk hO (by omega) (by decide)
    subst hao
    have p1 : (r : Int) < (ps.length : Int) := by omega
    have hfit : r * 2 + p.cells.toList.length ≤ cur.size := by simp; omega
    go_upto_region 7 with (first
      | (refine wpList_load_agg rfl 64 _ rfl xb 0 2 rfl 64 p.cells _ hX2 Tryd.underlying64 rfl Tryd.sizePr (by simp) p.cells rfl ?_)
      | (refine wpList_store_agg rfl rfl 64 _ _ rfl g (r * 2) rfl p.cells.toList rfl 64 cur hBg Tryd.sizePr hfit rfl (overlay cur (r * 2) p.cells.toList) rfl ?_; intro w4 hBg4 hk4))
    have hk04 : Keeps [] w w4 := hk03.step hk4 (fun x hx => by simp at hx; subst hx; exact .inr (Nat.le_trans hN2 hNg))
    have hB4 := hB.keep hk04 (by simp)
    have hO4 := hBg4.owns (N := w2.heap.size) (sz := 2) (n := ps.length) (c := c) (xs := prs (setPr ps p r true)) hNg (by rw [overlay_size hfit, hcsz]) hnc hcm (by
      have hps2 : (prs ps).length = ps.length * 2 := prs_length ps
      have hcl : cur.toList.length = c * 2 := by simpa using hcsz
      rw [← setPr_set (p := p) hrr, overlay_list, ← htk]
      have e1 : (cur.toList.take (ps.length * 2)).take (r * 2) = cur.toList.take (r * 2) := by rw [List.take_take, Nat.min_eq_left (by omega)]
      have e2 : (cur.toList.take (ps.length * 2)).drop (r * 2 + 2) = (cur.toList.drop (r * 2 + 2)).take (ps.length * 2 - (r * 2 + 2)) := by rw [List.drop_take]
      have e3 : (cur.toList.take (r * 2) ++ p.cells.toList).length = r * 2 + 2 := by simp; omega
      rw [e1, e2]
      have : ps.length * 2 = (cur.toList.take (r * 2) ++ p.cells.toList).length + (ps.length * 2 - (r * 2 + 2)) := by omega
      conv => lhs; rw [this]
      rw [List.take_length_add_append]
      rfl)
    clear hB2 hX2 hcs c0 hO hBg hBg4 hk4 hk3 hbl hxlt hnew
    have c0 : w4.cell? ⟨b, 0, none⟩ = some (.slice fo f.length fc) := hB4.cell 0
    have hbl := hB4.lt
    have bF := built_L fo (some ⟨g, 0, none⟩) f.length fc ps.length c
    go_wp2_with fail
    have hkN := hk04.alloc (.cells #[.slice fo f.length fc, .slice (some ⟨g, 0, none⟩) ps.length c, .slice none 0 0] 55)
    have hBN := Blk.fresh w4 55 #[.slice fo f.length fc, .slice (some ⟨g, 0, none⟩) ps.length c, .slice none 0 0]
    rw [← hlen] at hO4
    have hOn := own_older (own_keep hO4 ((Keeps.refl [] w4).alloc (.cells #[.slice fo f.length fc, .slice (some ⟨g, 0, none⟩) ps.length c, .slice none 0 0] 55)) (by simp)) hN2
    have hNd := leaf_made hkN (by simpa [hlen] using hBN) hk04.size hf hff hfl hOn hps hp hkv hsr hge hfp E1.out E2.out HIS.out m (by omega) (by omega)
    refine (nparted hNd (by omega)).mono ?_
    rintro e w7 ⟨g, cs, rfl, hP⟩
    go_wp2_with fail
    go_ret2
    exact ⟨g, cs, by rw [← HIS.out]; rfl, hP.back hkN⟩
end Go.Proofs.YtknnhnpcgefchaaDoor
