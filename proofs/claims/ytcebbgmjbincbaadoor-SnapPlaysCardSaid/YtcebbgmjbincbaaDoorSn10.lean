/- SnapPlays: the walk. -/
import Derived.Test.YtcebbgmjbincbaaDoorSn9

namespace Go.Proofs.YtcebbgmjbincbaaDoor
open Go.RowKit Go.Lib

theorem nx_ok {cur : Option Sn} (h : ∀ s, cur = some s → s.ok) {x : Sn} (hx : x.ok) : (nx cur x).ok := by
  cases cur with
  | none => exact hx
  | some c => simp only [nx]; split; exact h c rfl; exact hx

set_option maxRecDepth 100000 in
set_option maxHeartbeats 16000000 in
theorem splays (za : Option Addr) (zc : Nat) (zl : List Ss) (w : World) (hg : (w).cell? ⟨0, 0, none⟩ = some (.iface 148 (.agg #[.pointer (some ⟨1, 28, none⟩)]))) (hz : SsIn w za zl) :
    Calls Tryd.prog 8 #[.slice za zl.length zc] w fun e w' => e = .returned (.bool true) ∧ Keeps [] w w' := by
  obtain ⟨iB, zB, hiB, hzB, hsB, hbB, hcB⟩ := infoB
  have HZ := Lib.hid hz
  have HGW := Lib.hid hg
  clear hz hg
  go_enter Tryd.func8, Tryd.ntmps8
  go_wp2_with fail
  refine (sknown w).mono ?_
  rintro e w0 ⟨rfl, hk0⟩
  by_cases hlong : 24 < zl.length
  · have n0 : (24 : Int) < (zl.length : Int) := by omega
    go_wp2_with fail
    go_ret
    exact ⟨rfl, hk0⟩
  have n0 : ¬ ((24 : Int) < (zl.length : Int)) := by omega
  go_wp2_with fail
  refine (dnew 200000 (by omega) w0).mono ?_
  rintro e w1 ⟨db, L, rfl, hD, hk1, hL⟩
  have hB4 := Blk.fresh w1 69 #[.int .u64 0, .int .u64 0, .slice none 0 0]
  have hkA := (Keeps.refl [] w1).alloc (.cells #[.int .u64 0, .int .u64 0, .slice none 0 0] 69)
  have hk02 := (hk0.trans hk1).trans hkA
  have hD2 := hD.keep0 hkA
  have h4L : w1.heap.size ∉ L := fun hx => by have := hD.lt _ hx; omega
  have hL2 : ∀ x ∈ L, w.heap.size ≤ x := fun x hx => Nat.le_trans hk0.size (hL x hx)
  have h4w : w.heap.size ≤ w1.heap.size := (hk0.trans hk1).size
  clear hD hkA hk0 hk1 hL n0
  go_wp2_with fail
  generalize World.alloc w1 _ = w2 at *
  generalize w1.heap.size = g4 at *
  have H0 := Lib.hid (And.intro hB4 (And.intro hk02 (And.intro hD2 (And.intro h4L hL2))))
  clear hB4 hk02 hD2 h4L hL2
  go_loopw [5, 6] (fun v5 v6 wr => ∃ (i : Nat) (cur : Option Sn) (d : DSt) (L' : List Nat) (ao : Option Addr) (c : Nat), v5 = .bool cur.isSome ∧ v6 = .int .i64 (i : Int) ∧ i ≤ zl.length ∧ (∀ s, cur = some s → s.ok) ∧ SJn d cur ∧ d.off = false ∧ d.count ≤ 4 * i ∧ Disk wr L' db d ∧ (∀ x ∈ L', w.heap.size ≤ x) ∧ g4 ∉ L' ∧ Blk wr g4 69 ((cur.getD ⟨0, 0, []⟩).cells ao c) ∧ OwnG wr ao c (cur.getD ⟨0, 0, []⟩).l ∧ (∀ x ∈ blks ao, x ∉ L') ∧ Keeps [] w wr) (fun _ v _ => 24 - (intOf v).toNat)
  case atStart =>
    obtain ⟨hB4, hk02, hD2, h4L, hL2⟩ := H0.out
    refine ⟨0, none, _, L, none, 0, rfl, rfl, Nat.zero_le _, by simp, ⟨rfl, (by simp), rfl, (by simp), (fun f hf => by cases hf), (by simp)⟩, rfl, Nat.le_refl _, hD2, hL2, h4L, hB4, OwnG.nil _, by simp, hk02⟩
  case round =>
    obtain ⟨i, cur, d, L', ao, c, rfl, rfl, hi, hcur, hJ, ho, hcn, hDr, hLr, h4L, hB4, hO, haL, hkr⟩ := hrel
    by_cases hlt : i < zl.length
    rotate_left
    · have n1 : ¬ ((i : Int) < (zl.length : Int)) := by omega
      go_wp2_with fail
      go_ret
      exact ⟨rfl, hkr⟩
    have n1 : (i : Int) < (zl.length : Int) := by omega
    have qi : IntKind.i64.wrap ((i : Int) + 1) = i + 1 := IntWalk.i64_in _ (by omega)
    obtain ⟨x, hx⟩ : ∃ x, zl[i]? = some x := ⟨_, List.getElem?_eq_getElem hlt⟩
    obtain ⟨hxo, zb, zo, rfl, hz⟩ := HZ.out i x hx
    obtain ⟨wh, ht, ⟨ix, tm, l⟩, da, dc, ka, kc, keep⟩ := x
    obtain ⟨hix, htm, hht, hwh, hrb, hkp⟩ := hxo
    simp only [] at hix htm hht hwh hrb hkp
    have HL := Lib.hid (fun j v hv => hkr.cellSome (hz j v hv) (by simp) : ∀ j v, ([.int .i64 wh, .int .i64 ht, .int .u64 (ix : Nat), .int .u64 (tm : Nat), .slice da l.length dc, .slice ka keep.length kc] : List Value)[j]? = some v → wr.cell? ⟨zb, zo + i * 6 + j, none⟩ = some v)
    clear hz hx
    have hS := Blk.fresh wr 89 ([.int .i64 wh, .int .i64 ht, .int .u64 (ix : Nat), .int .u64 (tm : Nat), .slice da l.length dc, .slice ka keep.length kc] : List Value).toArray
    have hkS := (Keeps.refl [] wr).alloc (.cells ([.int .i64 wh, .int .i64 ht, .int .u64 (ix : Nat), .int .u64 (tm : Nat), .slice da l.length dc, .slice ka keep.length kc] : List Value).toArray 89)
    have hDS := hDr.keep0 hkS
    have hB4S := hB4.keep hkS (by simp)
    have hOS := hO.keep0 hkS
    have hkwS := hkr.trans hkS
    have h7L : wr.heap.size ∉ L' := fun hx => by have := hDr.lt _ hx; omega
    have h7w : w.heap.size ≤ wr.heap.size := hkr.size
    have h74 : wr.heap.size ≠ g4 := by have := hB4.lt; omega
    obtain ⟨⟨nix, ntm, nl⟩, hnow⟩ : ∃ n, n = cur.getD ⟨0, 0, []⟩ := ⟨_, rfl⟩
    rw [← hnow] at hB4S hOS
    clear hB4 hO hDr hkr hkS
    have HC := Lib.hid (And.intro hcur (And.intro hJ (And.intro ho (And.intro hcn (And.intro hLr (And.intro h4L haL))))))
    have HI := Lib.hid (And.intro hrb hkp)
    have HN := Lib.hid hnow
    clear hcur hJ ho hcn hLr h4L haL hrb hkp hnow
    go_upto_region 12 with (first
      | (refine wpList_load_run rfl _ _ rfl zb (zo + i * 6) rfl ([.int .i64 wh, .int .i64 ht, .int .u64 (ix : Nat), .int .u64 (tm : Nat), .slice da l.length dc, .slice ka keep.length kc]) HL.out _ Tryd.underlying89 rfl sizeSt ?_)
      | (refine wpList_store_fresh rfl rfl _ _ _ rfl _ rfl rfl _ rfl _ _ sizeSt (by simp) rfl ?_))
    change Code.wp _ _ _ _ (World.alloc wr (.cells ([.int .i64 wh, .int .i64 ht, .int .u64 (ix : Nat), .int .u64 (tm : Nat), .slice da l.length dc, .slice ka keep.length kc] : List Value).toArray 89))
    clear HL
    generalize World.alloc wr _ = wS at *
    generalize wr.heap.size = g7 at *
    replace hS := hS.eq (cs' := #[.int .i64 wh, .int .i64 ht, .int .u64 (ix : Nat), .int .u64 (tm : Nat), .slice da l.length dc, .slice ka keep.length kc]) rfl
    have hcS := hS.cell
    have hlS := hS.lt
    by_cases hbig : 1500 < l.length ∨ 80 < keep.length
    · by_cases hb1 : 1500 < l.length
      · have m1 : (1500 : Int) < (l.length : Int) := by omega
        go_wp2_with fail
        go_ret
        exact ⟨rfl, hkwS⟩
      · have m1 : ¬ ((1500 : Int) < (l.length : Int)) := by omega
        have m2 : (80 : Int) < (keep.length : Int) := by omega
        go_wp2_with fail
        go_ret
        exact ⟨rfl, hkwS⟩
    have m1 : ¬ ((1500 : Int) < (l.length : Int)) := by omega
    have m2 : ¬ ((80 : Int) < (keep.length : Int)) := by omega
    have hll : l.length ≤ 1500 := by omega
    obtain ⟨r, hr⟩ : ∃ r, r = wh.tmod 3 := ⟨_, rfl⟩
    have hr' := hr.symm
    have HH := Lib.hid (And.intro hDS (And.intro hB4S (And.intro hOS hkwS)))
    clear hDS hB4S hOS hkwS hr
    go_upto_if 45 with (fail)
    go_cut [] (fun wx => ∃ d1, SJn d1 cur ∧ d1.off = false ∧ d1.count = d.count ∧ Disk wx L' db d1 ∧ Keeps L' wS wx)
    case first =>
      by_cases hr0 : r = 0
      · subst hr0
        go_wp2_with fail
        go_meet
        exact ⟨d, HC.out.2.1, HC.out.2.2.1, rfl, HH.out.1, Keeps.refl _ _⟩
      · have hHa := dhalt HH.out.1 ht hht
        have HHa := Lib.hid hHa
        clear hHa
        go_wp2_with fail
        refine HHa.out.mono ?_
        rintro e wx ⟨rfl, hDx, hkx⟩
        go_wp2_with fail
        go_meet
        exact ⟨{ d with halt := max ht (-1) }, HC.out.2.1.same rfl rfl, HC.out.2.2.1, rfl, hDx, hkx⟩
    case rest =>
    generalize wc = wA at *
    obtain ⟨d1, hJ1, ho1, hc1, hD1, hk1⟩ := hcut
    obtain ⟨hDS, hB4S, hOS, hkwS⟩ := HH.out
    obtain ⟨hcur, hJ, ho, hcn, hLr, h4L, haL⟩ := HC.out
    have hB71 := hS.keep hk1 h7L
    have hB41 := hB4S.keep hk1 h4L
    have hO1 := hOS.keep hk1 haL
    have hkw1 := hkwS.step hk1 (fun x hx => .inr (hLr x hx))
    have hRx := (HI.out.1).keep0 hkw1
    clear hDS hB4S hOS hkwS hcur hJ ho hcn hLr h4L haL hcS hlS hS hr' HH
    -- the copy that is lent
    have hX8 := Blk.fresh wA 69 #[.int .u64 (ix : Nat), .int .u64 (tm : Nat), .slice da l.length dc]
    have hkX := (Keeps.refl [] wA).alloc (.cells #[.int .u64 (ix : Nat), .int .u64 (tm : Nat), .slice da l.length dc] 69)
    have h8L : wA.heap.size ∉ L' := fun hx => by have := hD1.lt _ hx; omega
    have h8w : w.heap.size ≤ wA.heap.size := hkw1.size
    have hB72 := hB71.keep hkX (by simp)
    have hc72 := hB72.cell
    have hl72 := hB72.lt
    have hRx2 := hRx.keep0 hkX
    have H1 := Lib.hid (And.intro hD1 (And.intro hB41 (And.intro hO1 hkw1)))
    clear hRx hB41 hO1 hkw1
    go_upto_region 17 with (first | (refine wpList_load_agg rfl _ _ rfl g7 2 3 rfl 89 _ _ hB71 Tryd.underlying69 rfl Tryd.sizeSnap (by simp) _ rfl ?_) | (refine wpList_store_fresh rfl rfl _ _ _ rfl _ rfl rfl _ rfl _ _ Tryd.sizeSnap (by simp) rfl ?_))
    generalize World.alloc wA _ = w2 at *
    generalize hg8 : wA.heap.size = g8 at *
    go_upto_region 18 with (at_builtin; refine wpList_append_bg _ rfl _ _ 22 22 rfl iB zB Tryd.underlying22 hiB hzB hsB hbB hcB none 0 [] rfl (OwnG.nil _) _ rfl l (hRx2.src Tryd.underlying22) (by simp; unfold maxLen; omega) (by simp; omega) ?_; intro a5 c5 w5 hO5 hk5 hb5; have hB85 := hX8.keep hk5 (by simp); have hc85 := hB85.cell; have hf85 := hB85.free)
    simp only [List.nil_append] at hO5
    have hB86 := (hB85.put 2 (.slice a5 l.length c5)).eq (cs' := #[.int .u64 (ix : Nat), .int .u64 (tm : Nat), .slice a5 l.length c5]) rfl
    have hk6 := (Keeps.refl [g8] w5).set (p := ⟨g8, 2, none⟩) (.inl (by simp)) (.slice a5 l.length c5)
    generalize World.setCell w5 _ _ = w6 at *
    have hg82 : g8 < w2.heap.size := hX8.lt
    have hb5' : ∀ x ∈ blks a5, w2.heap.size ≤ x := fun x hx => (hb5 x hx).elim (fun h => by cases h) id
    obtain ⟨hD1, hB41, hO1, hkw1⟩ := H1.out
    obtain ⟨hcur, hJ, ho, hcn, hLr, h4L, haL⟩ := HC.out
    have hA2 : wA.heap.size ≤ w2.heap.size := hkX.size
    have hk26 := (hkX.step hk5 (fun x hx => by cases hx)).step hk6 (fun x hx => .inr (by simp at hx; omega))
    have hD6 := ((hD1.keep0 hkX).keep0 hk5).keep hk6 (fun x hx => by simp; rintro rfl; exact h8L hx)
    have hO6 := hO5.keep hk6 (fun x hx => by simp; rintro rfl; have := hb5' _ hx; omega)
    have hx : Sn.ok ⟨ix, tm, l⟩ := ⟨hix, htm, hll⟩
    have hSv := save_any hD6 ho1 (by omega) hJ1 hcur hx hO6.rb
    have hsi := sv_si hJ1 ho1 hx
    have hsc := sv_count d1 cur ⟨ix, tm, l⟩
    generalize sv d1 cur ⟨ix, tm, l⟩ = R at *
    have ha5L : ∀ x ∈ blks a5, x ∉ L' := fun x hx hx2 => by have := hb5' x hx; have := hD1.lt _ hx2; omega
    have HSv := Lib.hid hSv
    have H2 := Lib.hid (And.intro hk26 (And.intro hO6 (And.intro ha5L (And.intro hsi (And.intro hsc (And.intro hb5' hg82))))))
    clear hSv hD6 hO6 hk6 hk5 hk26 hO5 hb5 hB85 hc85 hf85 hX8 hRx2 hB72 hc72 hl72 hD1 hB41 hO1 hkw1 hcur hJ ho hcn hLr h4L haL ha5L hsi hsc hg82 hb5' hkX
    go_wp2_with (refine wpList_load_agg rfl _ _ rfl g8 0 3 rfl 69 _ _ hB86 Tryd.underlying69 rfl Tryd.sizeSnap (by simp) _ rfl ?_)
    refine HSv.out.mono ?_
    rintro e w7 ⟨ev, L7, rfl, hE, hD7, hk7, hL7⟩
    have hB87 := hB86.keep hk7 h8L
    have hc87 := hB87.cell
    have hl87 := hB87.lt
    have hSp := spoil_own a5 c5 l (H2.out.2.1.keep hk7 H2.out.2.2.1) (by omega)
    have HSp := Lib.hid hSp
    have H3 := Lib.hid (And.intro hE (And.intro hD7 (And.intro hk7 hL7)))
    clear hSp hE hD7 hk7 hL7 hB87
    go_wp2_with fail
    refine HSp.out.mono ?_
    rintro e w8 ⟨rfl, hk8⟩
    clear hc87 hl87
    obtain ⟨hE, hD7, hk7, hL7⟩ := H3.out
    obtain ⟨hk26, hO6, ha5L, hsi, hsc, hb5', hg82⟩ := H2.out
    obtain ⟨hD1, hB41, hO1, hkw1⟩ := H1.out
    obtain ⟨hcur, hJ, ho, hcn, hLr, h4L, haL⟩ := HC.out
    have hs5 := (hk26.of_nil.step hk7 (fun x hx => .inl hx)).step hk8 (fun x hx => .inr (by have := hb5' x hx; omega))
    have hB78 := hB71.keep hs5 h7L
    have hB48 := hB41.keep hs5 h4L
    have hO8 := hO1.keep hs5 haL
    have hkw8 := hkw1.step hs5 (fun x hx => .inr (hLr x hx))
    have hD8 := hD7.keep hk8 (fun x hx hx2 => (hL7 x hx).elim (ha5L x hx2) (fun h => by have := hO6.lt x hx2; omega))
    have hA6 : wA.heap.size ≤ w6.heap.size := hk26.size
    have h4L7 : g4 ∉ L7 := fun hx => (hL7 _ hx).elim h4L (fun h => by have := hB41.lt; omega)
    have h7L7 : g7 ∉ L7 := fun hx => (hL7 _ hx).elim h7L (fun h => by have := hB71.lt; omega)
    have haL7 : ∀ x ∈ blks ao, x ∉ L7 := fun x hx hx2 => (hL7 _ hx2).elim (haL x hx) (fun h => by have := hO1.lt x hx; omega)
    have hL7w : ∀ x ∈ L7, w.heap.size ≤ x := fun x hx => (hL7 x hx).elim (hLr x) (fun h => by omega)
    obtain ⟨cur2, hJ2, hres⟩ : ∃ cur2, SJn R.1 cur2 ∧ ((ev = .nilIface ∧ cur2 = some (nx cur ⟨ix, tm, l⟩)) ∨ (ev = .iface 98 (.int .i64 32) ∧ cur2 = cur)) := by
      obtain ⟨Rd, Rr⟩ := R
      simp only at hsi hE ⊢
      rcases hsi with ⟨rfl, h⟩ | ⟨rfl, h⟩
      · exact ⟨_, h, .inl ⟨hE, rfl⟩⟩
      · exact ⟨_, h, .inr ⟨hE, rfl⟩⟩
    have hcur2 : ∀ s, cur2 = some s → s.ok := by
      intro s hs
      rcases hres with ⟨_, rfl⟩ | ⟨_, rfl⟩
      · cases hs; exact nx_ok hcur hx
      · exact hcur s hs
    have hcl := class_de (r := .down) (hkw8.cellSome HGW.out (by simp)) rfl
    have H4 := Lib.hid (And.intro hB78 (And.intro hB48 (And.intro hO8 (And.intro hkw8 (And.intro hD8 (And.intro h4L7 (And.intro h7L7 (And.intro haL7 hL7w))))))))
    have HR := Lib.hid (And.intro hres (And.intro hJ2 (And.intro hcur2 hsc)))
    have HCl := Lib.hid hcl
    clear hcl hE hD7 hk7 hL7 hk26 hO6 ha5L hsi hsc hb5' hg82 hD1 hB41 hO1 hkw1 hcur hJ ho hcn hLr h4L haL hs5 hB78 hB48 hO8 hkw8 hD8 hA6 h4L7 h7L7 haL7 hL7w hJ2 hres hcur2 hB71 hB86 H1 H2 H3 HSp HSv hk8
    go_upto_region 20 with (fail)
    go_cut [69] (fun v wx => v = .bool false ∧ Keeps [] w8 wx)
    case first =>
      rcases HR.out.1 with ⟨rfl, _⟩ | ⟨rfl, _⟩
      · go_wp2_with fail
        go_meet
        exact ⟨rfl, Keeps.refl _ _⟩
      · go_wp2_with fail
        refine HCl.out.mono ?_
        rintro e w9 ⟨rfl, hk9⟩
        simp only [DRes.cls]
        go_wp2_with fail
        go_meet
        exact ⟨rfl, hk9⟩
    case rest =>
    generalize wc = w9 at *
    obtain ⟨rfl, hk9⟩ := hcut
    generalize hhb : cur.isSome = hb at *
    obtain ⟨q, hq⟩ : ∃ q : Bool, q = decide (hb = false ∨ nix ≤ ix) := ⟨_, rfl⟩
    have hqn : (q = true ∧ nx cur ⟨ix, tm, l⟩ = ⟨ix, tm, l⟩) ∨ (q = false ∧ nx cur ⟨ix, tm, l⟩ = ⟨nix, ntm, nl⟩) := by
      have hn := HN.out
      cases cur with
      | none => simp at hhb; subst hhb; simp [hq, nx]
      | some k =>
        simp at hhb
        subst hhb
        simp at hn
        subst hn
        simp only [hq, nx]
        by_cases e : nix ≤ ix
        · exact .inl ⟨by simp [e], if_neg (by show ¬ ix < nix; omega)⟩
        · exact .inr ⟨by simp [e], if_pos (by show ix < nix; omega)⟩
    have hqv := hq
    clear hq
    have HQ := Lib.hid (And.intro hqn hhb)
    have HQV := Lib.hid hqv
    clear hqn hhb hqv
    have hB79 := Blk.keep H4.out.1 hk9 (by simp)
    have hB49 := (Blk.keep H4.out.2.1 hk9 (by simp)).eq (cs' := #[.int .u64 (nix : Nat), .int .u64 (ntm : Nat), .slice ao nl.length c]) rfl
    have hX10 := Blk.fresh w9 69 #[.int .u64 (nix : Nat), .int .u64 (ntm : Nat), .slice ao nl.length c]
    have hkX10 := (Keeps.refl [] w9).alloc (.cells #[.int .u64 (nix : Nat), .int .u64 (ntm : Nat), .slice ao nl.length c] 69)
    have hB710 := hB79.keep hkX10 (by simp)
    have hB410 := hB49.keep hkX10 (by simp)
    have hc7 := hB710.cell
    have hl7 := hB710.lt
    have hc4 := hB410.cell
    have hl4 := hB410.lt
    go_upto_region 23 with (first | (refine wpList_load_agg rfl _ _ rfl g4 0 3 rfl 69 _ _ hB49 Tryd.underlying69 rfl Tryd.sizeSnap (by simp) _ rfl ?_) | (refine wpList_store_fresh rfl rfl _ _ _ rfl _ rfl rfl _ rfl _ _ Tryd.sizeSnap (by simp) rfl ?_))
    generalize World.alloc w9 _ = w10 at *
    generalize hg10 : w9.heap.size = g10 at *
    go_cut [80] (fun v wx => v = .bool q ∧ wx = w10)
    case first =>
      cases hb
      · obtain rfl : q = true := by rw [HQV.out]; rfl
        go_wp2_with fail
        go_meet
        exact ⟨rfl, rfl⟩
      · by_cases e : nix ≤ ix
        · obtain rfl : q = true := by rw [HQV.out]; simp [e]
          have e' : (nix : Int) ≤ (ix : Int) := by omega
          go_wp2_with fail
          go_meet
          exact ⟨rfl, rfl⟩
        · obtain rfl : q = false := by rw [HQV.out]; simp [e]
          have e' : ¬ ((nix : Int) ≤ (ix : Int)) := by omega
          go_wp2_with fail
          go_meet
          exact ⟨rfl, rfl⟩
    case rest =>
    obtain ⟨rfl, hw⟩ := hcut
    obtain rfl := hw.symm
    clear hc7 hl7 hc4 hl4
    obtain ⟨⟨pix, ptm, pl⟩, hpn⟩ : ∃ p, p = nx cur ⟨ix, tm, l⟩ := ⟨_, rfl⟩
    have HP := Lib.hid hpn
    clear hpn
    have hkw9 := H4.out.2.2.2.1.trans hk9
    have hk910 : Keeps [] w9 w10 := hkX10
    have hkw10 := hkw9.trans hk910
    have hRx10 := HI.out.1.keep0 hkw10
    have hO10 := (H4.out.2.2.1.keep0 hk9).keep0 hk910
    have H5 := Lib.hid (And.intro hRx10 (And.intro hO10 hkw10))
    clear hRx10 hO10 hkw9 hkw10 hkX10
    go_upto_if 80 with (fail)
    go_cut [] (fun wx => ∃ na nc, Blk wx g10 69 #[.int .u64 (pix : Nat), .int .u64 (ptm : Nat), .slice na pl.length nc] ∧ Rb wx na nc pl ∧ Keeps [g10] w10 wx ∧ ∀ ad, na = some ad → bys pl ≠ [] → ad.block < w.heap.size ∨ ad.block ∈ blks ao)
    case first =>
      rcases HQ.out.1 with ⟨rfl, hp⟩ | ⟨rfl, hp⟩
      · have hp2 := HP.out
        rw [hp, Sn.mk.injEq] at hp2
        obtain ⟨rfl, rfl, rfl⟩ := hp2
        clear hp
        go_wp2_with (first | (refine wpList_load_agg rfl _ _ rfl g7 2 3 rfl 89 _ _ hB710 Tryd.underlying69 rfl Tryd.sizeSnap (by simp) _ rfl ?_) | (refine wpList_store_agg rfl rfl _ _ _ rfl g10 0 rfl _ rfl 69 _ hX10 Tryd.sizeSnap (by simp) rfl _ rfl ?_; intro w11 hB11 hk11))
        go_meet
        exact ⟨da, dc, hB11, H5.out.1.keep hk11 (fun ad e h => by
          have h1 := (HI.out.1.lt e h)
          have h2 := H4.out.2.2.2.1.size
          have h3 := hk9.size
          simp
          omega), hk11, fun ad e h => .inl (HI.out.1.lt e h)⟩
      · have hp2 := HP.out
        rw [hp, Sn.mk.injEq] at hp2
        obtain ⟨rfl, rfl, rfl⟩ := hp2
        clear hp
        go_wp2_with fail
        go_meet
        exact ⟨ao, c, hX10, H5.out.2.1.rb, Keeps.refl _ _, fun ad e h => by cases e; exact .inr (.head _)⟩
    case rest =>
    generalize wc = wB at *
    obtain ⟨na, nc, hB10B, hRB, hkB, hna⟩ := hcut
    have hsB := hk910.step hkB (fun x hx => .inr (by simp at hx; omega))
    have hkwB := (H4.out.2.2.2.1.trans hk9).trans hsB
    have hB7B := hB79.keep hsB (by simp)
    have hB4B := hB49.keep hsB (by simp)
    have hDB := (H4.out.2.2.2.2.1.keep0 hk9).keep0 hsB
    have hOB := (H4.out.2.2.1.keep0 hk9).keep0 hsB
    obtain ⟨h4L7, h7L7, haL7, hL7w⟩ := H4.out.2.2.2.2.2
    have hcr := dcrash hDB keep (HI.out.2.keep0 hkwB) (fun ad e h hx => by
      have h1 := HI.out.2.lt e (by simpa using h)
      have h2 := hL7w _ hx
      omega)
    have h10w : g10 < wB.heap.size := hB10B.lt
    have h10L7 : g10 ∉ L7 := fun hx => by have := (H4.out.2.2.2.2.1.keep0 hk9).lt _ hx; omega
    obtain ⟨⟨six, stm, sl⟩, hsn⟩ : ∃ s, s = cur2.getD ⟨0, 0, []⟩ := ⟨_, rfl⟩
    have HSN := Lib.hid hsn
    have HCr := Lib.hid hcr
    have H6 := Lib.hid (And.intro hB4B (And.intro hOB (And.intro hRB (And.intro hB10B (And.intro hkwB (And.intro h4L7 (And.intro haL7 (And.intro hL7w (And.intro h10L7 hna)))))))))
    clear hcr hsn hna hRB hB10B hkB hkwB hB4B hDB hOB h4L7 h7L7 haL7 hL7w h10w h10L7 hB710 hB410 hX10 hk910 hB79 hB49 hk9 hsB H4 H5 HCl
    go_wp2_with (refine wpList_load_agg rfl _ _ rfl g7 5 1 rfl 89 _ _ hB7B Tryd.underlying36 rfl sizeCr (by simp) _ rfl ?_)
    refine HCr.out.mono ?_
    rintro e w12 ⟨rfl, hD12, hk12⟩
    have hld := load_sn (s := ⟨six, stm, sl⟩) (cur := cur2) hD12 rfl (crash_sj HR.out.2.1 keep) HR.out.2.2.1 HSN.out
    simp only [] at hld
    generalize hh2 : cur2.isSome = hb2 at hld
    have HH2 := Lib.hid hh2
    have HLd := Lib.hid hld
    have H7 := Lib.hid (And.intro hD12 hk12)
    clear hld hD12 hk12 hB7B hh2
    go_upto_region 26 with (fail)
    go_wp2_with fail
    refine HLd.out.mono ?_
    rintro e w13 ⟨b13, c13, rfl, hO13, hb13, hk13⟩
    have hX11 := Blk.fresh w13 69 #[.int .u64 (six : Nat), .int .u64 (stm : Nat), .slice b13 sl.length c13]
    have hk14 := (Keeps.refl [] w13).alloc (.cells #[.int .u64 (six : Nat), .int .u64 (stm : Nat), .slice b13 sl.length c13] 69)
    obtain ⟨hD12, hk12⟩ := H7.out
    obtain ⟨hB4B, hOB, hRB, hB10B, hkwB, h4L7, haL7, hL7w, h10L7, hna⟩ := H6.out
    have hs14 := (hk12.step hk13 (fun x hx => by cases hx)).step hk14 (fun x hx => by cases hx)
    have hB414 := hB4B.keep hs14 h4L7
    have hB1014 := hB10B.keep hs14 h10L7
    have hO14 := hOB.keep hs14 haL7
    have hR14 := hRB.keep hs14 (fun ad e h hx => (hna ad e h).elim (fun h1 => by have := hL7w _ hx; omega) (fun h1 => haL7 _ h1 hx))
    have hkw14 := hkwB.step hs14 (fun x hx => .inr (hL7w x hx))
    have hD14 := (hD12.keep0 hk13).keep0 hk14
    have hOb14 := hO13.keep0 hk14
    have hbL : ∀ x ∈ blks b13, x ∉ L7 ∧ x ≠ g4 := fun x hx => ⟨fun h => by have := hb13 x hx; have := hD12.lt _ h; omega, by have := hb13 x hx; have := hB4B.lt; have := hk12.size; omega⟩
    have H8 := Lib.hid (And.intro hO14 (And.intro hR14 (And.intro hkw14 (And.intro hD14 (And.intro hOb14 (And.intro hbL (And.intro hL7w h4L7)))))))
    clear hB4B hOB hRB hB10B hkwB h4L7 haL7 hL7w h10L7 hna hs14 hO14 hR14 hkw14 hD14 hOb14 hbL hk12 hD12 hk13 hk14 hb13 hO13 HLd H7 H6 HCr
    go_upto_region 27 with (refine wpList_store_fresh rfl rfl _ _ _ rfl _ rfl rfl _ rfl _ _ Tryd.sizeSnap (by simp) rfl ?_)
    generalize World.alloc w13 _ = w14 at *
    generalize w13.heap.size = g11 at *
    have hsame : ∀ w', Keeps [] w14 w' → Calls Tryd.prog 42 #[.agg #[.int .u64 (six : Nat), .int .u64 (stm : Nat), .slice b13 sl.length c13], .agg #[.int .u64 (pix : Nat), .int .u64 (ptm : Nat), .slice na pl.length nc]] w' fun e w'' => e = .returned (.bool (decide ((⟨six, stm, sl⟩ : Sn) = ⟨pix, ptm, pl⟩))) ∧ Keeps [] w' w'' := fun w' hk => same_any ⟨six, stm, sl⟩ ⟨pix, ptm, pl⟩ b13 na c13 nc w' (H8.out.2.2.2.2.1.keep0 hk).rb (H8.out.2.1.keep0 hk)
    have hnow : ∀ w', Keeps [] w14 w' → Calls Tryd.prog 42 #[.agg #[.int .u64 (six : Nat), .int .u64 (stm : Nat), .slice b13 sl.length c13], .agg #[.int .u64 (nix : Nat), .int .u64 (ntm : Nat), .slice ao nl.length c]] w' fun e w'' => e = .returned (.bool (decide ((⟨six, stm, sl⟩ : Sn) = ⟨nix, ntm, nl⟩))) ∧ Keeps [] w' w'' := fun w' hk => same_any ⟨six, stm, sl⟩ ⟨nix, ntm, nl⟩ b13 ao c13 c w' (H8.out.2.2.2.2.1.keep0 hk).rb (H8.out.1.keep0 hk).rb
    have HS1 := Lib.hid hsame
    have HS2 := Lib.hid hnow
    clear hsame hnow
    go_cut [108] (fun v wx => v = .bool false ∧ Keeps [] w14 wx)
    case first =>
      rcases HR.out.1 with ⟨rfl, h2⟩ | ⟨rfl, h2⟩
      · obtain rfl : hb2 = true := by rw [← HH2.out, h2]; rfl
        have e : (⟨six, stm, sl⟩ : Sn) = ⟨pix, ptm, pl⟩ := by rw [HSN.out, h2, HP.out]; rfl
        have HE := Lib.hid e
        clear e h2
        go_wp2_with (first | (refine wpList_load_aggG rfl _ _ rfl g11 0 3 rfl 69 _ _ hX11 Tryd.underlying69 rfl Tryd.sizeSnap (by simp) _ rfl ?_) | (refine wpList_load_aggG rfl _ _ rfl g10 0 3 rfl 69 _ _ hB1014 Tryd.underlying69 rfl Tryd.sizeSnap (by simp) _ rfl ?_))
        refine (HS1.out _ (Keeps.refl _ _)).mono ?_
        rintro e' w15 ⟨rfl, hk15⟩
        rw [decide_eq_true HE.out]
        go_wp2_with fail
        go_meet
        exact ⟨rfl, hk15⟩
      · clear h2
        go_wp2_with fail
        go_meet
        exact ⟨rfl, Keeps.refl _ _⟩
    case rest =>
    generalize wc = w15 at *
    obtain ⟨rfl, hk15⟩ := hcut
    have hX15 := hX11.keep hk15 (by simp)
    have hB415 := hB414.keep hk15 (by simp)
    have hB1015 := hB1014.keep hk15 (by simp)
    go_upto_region 29 with (fail)
    go_cut [130] (fun v wx => v = .bool false ∧ Keeps [] w15 wx)
    case first =>
      rcases HR.out.1 with ⟨rfl, h2⟩ | ⟨rfl, h2⟩
      · clear h2
        go_wp2_with fail
        go_meet
        exact ⟨rfl, Keeps.refl _ _⟩
      · obtain rfl : hb2 = hb := by rw [← HH2.out, ← HQ.out.2, h2]
        have e : (⟨six, stm, sl⟩ : Sn) = ⟨nix, ntm, nl⟩ := by rw [HSN.out, h2, HN.out]
        have HE := Lib.hid e
        clear e h2
        cases hb2
        · go_wp2_with (first | (refine wpList_load_aggG rfl _ _ rfl g11 0 3 rfl 69 _ _ hX15 Tryd.underlying69 rfl Tryd.sizeSnap (by simp) _ rfl ?_) | (refine wpList_load_aggG rfl _ _ rfl g4 0 3 rfl 69 _ _ hB415 Tryd.underlying69 rfl Tryd.sizeSnap (by simp) _ rfl ?_))
          refine (HS2.out _ hk15).mono ?_
          rintro e' w16 ⟨rfl, hk16⟩
          rw [decide_eq_true HE.out]
          go_wp2_with fail
          go_meet
          exact ⟨rfl, hk16⟩
        · go_wp2_with (first | (refine wpList_load_aggG rfl _ _ rfl g11 0 3 rfl 69 _ _ hX15 Tryd.underlying69 rfl Tryd.sizeSnap (by simp) _ rfl ?_) | (refine wpList_load_aggG rfl _ _ rfl g10 0 3 rfl 69 _ _ hB1015 Tryd.underlying69 rfl Tryd.sizeSnap (by simp) _ rfl ?_))
          refine (HS1.out _ hk15).mono ?_
          rintro e' w16 ⟨rfl, hk16⟩
          have hX16 := hX15.keep hk16 (by simp)
          have hB416 := hB415.keep hk16 (by simp)
          by_cases hs : (⟨six, stm, sl⟩ : Sn) = ⟨pix, ptm, pl⟩
          · rw [decide_eq_true hs]
            clear hs
            go_wp2_with fail
            go_meet
            exact ⟨rfl, hk16⟩
          · rw [decide_eq_false hs]
            clear hs
            go_wp2_with (first | (refine wpList_load_aggG rfl _ _ rfl g11 0 3 rfl 69 _ _ hX16 Tryd.underlying69 rfl Tryd.sizeSnap (by simp) _ rfl ?_) | (refine wpList_load_aggG rfl _ _ rfl g4 0 3 rfl 69 _ _ hB416 Tryd.underlying69 rfl Tryd.sizeSnap (by simp) _ rfl ?_))
            refine (HS2.out _ (hk15.trans hk16)).mono ?_
            rintro e' w17 ⟨rfl, hk17⟩
            rw [decide_eq_true HE.out]
            go_wp2_with fail
            go_meet
            exact ⟨rfl, hk16.trans hk17⟩
    case rest =>
    generalize wc = w16 at *
    obtain ⟨rfl, hk16⟩ := hcut
    have hX16 := hX15.keep hk16 (by simp)
    have hB416 := hB415.keep hk16 (by simp)
    go_wp2_with (first | (refine wpList_load_agg rfl _ _ rfl g11 0 3 rfl 69 _ _ hX16 Tryd.underlying69 rfl Tryd.sizeSnap (by simp) _ rfl ?_) | (refine wpList_store_agg rfl rfl _ _ _ rfl g4 0 rfl _ rfl 69 _ hB416 Tryd.sizeSnap (by simp) rfl _ rfl ?_; intro w17 hB17 hk17))
    go_roundw
    case rel =>
      obtain ⟨hO14, hR14, hkw14, hD14, hOb14, hbL, hL7w, h4L7⟩ := H8.out
      have hk1416 := hk15.trans hk16
      have hcn := HC.out.2.2.2.1
      have hsc := HR.out.2.2.2
      refine ⟨i + 1, cur2, R.1.crash keep, L7, b13, c13, by rw [HH2.out], by simp, by omega, HR.out.2.2.1, crash_sj HR.out.2.1 keep, rfl, ?_, (hD14.keep0 hk1416).keep hk17 (fun x hx => by simp; rintro rfl; exact h4L7 hx), hL7w, h4L7, ?_, ?_, fun x hx => (hbL x hx).1, (hkw14.trans hk1416).step hk17 (fun x hx => .inr (by simp at hx; omega))⟩
      · show R.1.count ≤ _
        omega
      · rw [← HSN.out]
        exact hB17
      · rw [← HSN.out]
        exact (hOb14.keep0 hk1416).keep hk17 (fun x hx => by simp; exact (hbL x hx).2)
    case measure => simp [intOf]; omega
end Go.Proofs.YtcebbgmjbincbaaDoor
