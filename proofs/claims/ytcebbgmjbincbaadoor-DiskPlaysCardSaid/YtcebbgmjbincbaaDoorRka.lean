/- The document's disk beside the plain disk: Crash. -/
import Derived.Test.YtcebbgmjbincbaaDoorRkZ
import Derived.Test.YtcebbgmjbincbaaDoorDkc

namespace Go.Proofs.YtcebbgmjbincbaaDoor
open Go.RowKit Go.Lib
theorem crashLen (keep : List Int) (i : Nat) (f : Fil) (h : f.sure ≤ f.b.length) : f.sure ≤ (crashF keep i f).sure ∧ (crashF keep i f).sure ≤ f.b.length := by
  unfold crashF
  cases keep[i]? with
  | none => simp only []; omega
  | some k => simp only []; omega
section
variable {w w' : World} {rb room count c i g : Nat} {halt : Int} {off : Bool} {fl : List RfM} {fa : Option Addr} {L : List Nat} {x x' : RfM} {d : DSt} {keep : List Int}
/-- a file that has fallen -/
def RfM.cut (x : RfM) (keep : List Int) (j : Nat) : RfM := { x with f := crashF keep j x.f }
def cutFl (keep : List Int) (i : Nat) (fl : List RfM) : List RfM := fl.mapIdx fun j x => if j < i then x.cut keep j else x
theorem cutFl_zero : cutFl keep 0 fl = fl := by
  unfold cutFl
  apply List.ext_getElem?
  intro j
  simp
theorem cutFl_length : (cutFl keep i fl).length = fl.length := by simp [cutFl]
theorem cutFl_get (h : fl[i]? = some x) : (cutFl keep i fl)[i]? = some x := by simp [cutFl, h]
theorem cutFl_succ (h : fl[i]? = some x) : cutFl keep (i + 1) fl = (cutFl keep i fl).set i (x.cut keep i) := by
  unfold cutFl
  apply List.ext_getElem?
  intro j
  rw [List.getElem?_set, List.getElem?_mapIdx, List.getElem?_mapIdx]
  obtain ⟨hl, hi⟩ := List.getElem?_eq_some_iff.1 h
  by_cases e : i = j
  · subst e
    simp [hl, hi]
  · rw [if_neg e]
    cases hj : fl[j]? with
    | none => rfl
    | some x =>
      simp only [Option.map_some]
      by_cases e2 : j < i
      · rw [if_pos e2, if_pos (by omega)]
      · rw [if_neg e2, if_neg (by omega)]
theorem cutFl_rfs : rfs (cutFl keep i fl) = crI keep i (rfs fl) := by
  unfold rfs cutFl crI
  apply List.ext_getElem?
  intro j
  simp only [List.getElem?_map, List.getElem?_mapIdx, Option.map_map]
  cases fl[j]? with
  | none => rfl
  | some x =>
    simp only [Option.map_some, Function.comp]
    by_cases e : j < i
    · simp [e, RfM.kv, RfM.cut]
    · simp [e, RfM.kv]
theorem cutFl_feet : rfeet rb fa (cutFl keep i fl) = rfeet rb fa fl := by
  unfold rfeet
  congr 2
  rw [List.flatMap_def, List.flatMap_def]
  congr 1
  unfold cutFl
  apply List.ext_getElem?
  intro j
  simp only [List.getElem?_map, List.getElem?_mapIdx, Option.map_map]
  cases fl[j]? with
  | none => rfl
  | some x =>
    simp only [Option.map_some, Function.comp]
    by_cases e : j < i
    · simp [e, RfM.cut]
    · simp [e]
/-- a whole file laid in its place -/
theorem RM.lay {cur : Array Value} (h : RM w rb room count halt off fl (some ⟨g, 0, none⟩) c) (hi : fl[i]? = some x) (hB : Blk w g 65 cur) (hB' : Blk w' g 65 (overlay cur (i * 3) x'.cells)) (hk : Keeps [g] w w') (hO : OwnG w x'.ao x'.c x'.f.b) : RM w' rb room count halt off (fl.set i x') (some ⟨g, 0, none⟩) c := by
  have hl := (List.getElem?_eq_some_iff.1 hi).1
  obtain ⟨g', cur', e, _, hB2, hs, hnc, hcm, ht⟩ := ownsRow_blk h.own (by omega) (by decide)
  simp only [Option.some.injEq, Addr.mk.injEq, and_true] at e
  subst e
  have hcur : cur' = cur := by
    unfold Blk at hB hB2
    rw [hB] at hB2
    simpa using hB2.symm
  subst hcur
  have hrg : rb ≠ g := by rintro rfl; exact h.rb_fa (.head _)
  have hgo : ∀ (ao : Option Addr) (d : Nat) (l : List UInt8), OwnG w ao d l → ∀ y ∈ blks ao, y ∉ [g] := by
    rintro ao d l ho y hy
    simp
    rintro rfl
    obtain ⟨cs, hcs⟩ := ho.bytes _ hy
    exact absurd rfl (hB.ne (b' := y) hcs (by decide))
  have hc3 : x'.cells.length = 3 := rfl
  have hfit : i * 3 + x'.cells.length ≤ cur'.size := by rw [hs, hc3]; omega
  refine ⟨(h.blk.keep hk (by simpa using hrg)).eq (by rw [List.length_set]), ?_, fun f hf => ?_⟩
  · rw [List.length_set]
    refine hB'.owns (Nat.zero_le _) (by rw [overlay_size hfit]; exact hs) hnc hcm ?_
    rw [overlay_list, hc3]
    have e1 : cur'.toList.take (i * 3) = rcs (fl.take i) := by
      have := congrArg (List.take (i * 3)) ht
      rw [List.take_take, Nat.min_eq_left (by omega), rcs_take] at this
      exact this
    have e2 : (cur'.toList.drop (i * 3 + 3)).take ((fl.length - (i + 1)) * 3) = rcs (fl.drop (i + 1)) := by
      have := congrArg (List.drop ((i + 1) * 3)) ht
      rw [rcs_drop, List.drop_take] at this
      rw [← this, show i * 3 + 3 = (i + 1) * 3 by omega]
      congr 1
      omega
    have e3 : (rcs (fl.take i)).length = i * 3 := by rw [rcs_length, List.length_take]; omega
    rw [e1, show fl.length * 3 = (rcs (fl.take i) ++ x'.cells).length + (fl.length - (i + 1)) * 3 by rw [List.length_append, e3, hc3]; omega, List.take_length_add_append, e2, List.set_eq_take_append_cons_drop, if_pos hl, rcs_app, rcs_cons, List.append_assoc]
  · rcases List.mem_or_eq_of_mem_set hf with hf | rfl
    · exact (h.file f hf).keep hk (hgo _ _ _ (h.file f hf))
    · exact hO.keep hk (hgo _ _ _ hO)

def CrashPost (w : World) (L : List Nat) (rb : Nat) (d : DSt) (e : Ending) (w' : World) : Prop := e = .returned (.tuple #[]) ∧ Ref w' L rb d ∧ Keeps L w w'
set_option maxRecDepth 100000 in
set_option maxHeartbeats 8000000 in
theorem rcrash (h : Ref w L rb d) (keep : List Int) {ka : Option Addr} {kc : Nat} (hK : Sl w 1 ka keep.length kc (keep.map (Value.int .i64))) (hko : ∀ ad, ka = some ad → keep ≠ [] → ad.block ∉ L) (hok2 : (d.crash keep).Ok) :
    Calls Tryd.prog 31 #[.pointer (some ⟨rb, 0, none⟩), .agg #[.slice ka keep.length kc]] w (CrashPost w L rb (d.crash keep)) := by
  obtain ⟨fl, fa, c, hM, hA, rfl, hok⟩ := h
  have hfew := hA.few hok
  have hsure : ∀ (i : Nat) (x : RfM), fl[i]? = some x → x.f.sure ≤ x.f.b.length ∧ x.f.b.length ≤ 1048576 := fun i x hi => by
    have hm := hA.get (rfs_at hi)
    exact ⟨hok.sure _ (mget_mem hm), hok.most _ (mget_mem hm)⟩
  have hBx := Blk.fresh w 36 #[.slice ka keep.length kc]
  have hk1 := (Keeps.refl [] w).alloc (.cells #[.slice ka keep.length kc] 36)
  have H := Lib.hid (And.intro (hM.keep0 hk1) (And.intro (hK.keep0 hk1) (And.intro hko (And.intro hsure (And.intro hA hok2)))))
  have hlt := Lib.hid hM.lt
  have HB3 := Lib.hid (fun hx => by have := hM.lt _ hx; omega : w.heap.size ∉ rfeet rb fa fl)
  have HK0 := Lib.hid hk1
  clear hM hK hko hsure hA hok hok2 hk1
  go_enter Tryd.func31, Tryd.ntmps31
  go_upto_region 1 with (fail)
  generalize World.alloc w _ = w1 at *
  generalize hb3 : w.heap.size = b3 at *
  go_wp2_with fail
  go_loopw [4] (fun v wr => ∃ i : Nat, v = .int .i64 (i : Int) ∧ i ≤ fl.length ∧ RM wr rb d.room d.count d.halt d.off (cutFl keep i fl) fa c ∧ Keeps (rfeet rb fa fl) w1 wr) (fun v _ => fl.length - (intOf v).toNat)
  case atStart => exact ⟨0, rfl, Nat.zero_le _, by rw [cutFl_zero]; exact H.out.1, Keeps.refl _ _⟩
  case round =>
    obtain ⟨i, rfl, hi, hM, hk⟩ := hrel
    have hb := hM.blk
    rw [cutFl_length] at hb
    have hbc := hb.cell
    have hbl := hb.lt
    have HR := Lib.hid (And.intro hM hk)
    clear hM hk
    rcases (by omega : i = fl.length ∨ i < fl.length) with hie | hil
    · have n1 : ¬ ((i : Int) < (fl.length : Int)) := by omega
      have hbf := hb.free
      have HIE := Lib.hid hie
      clear hie
      have hfin := fun (W : World) (hW : W = (wr.setCell ⟨rb, 2, none⟩ (.bool false)).setCell ⟨rb, 3, none⟩ (.int .i64 (-1))) => (by
        subst hW
        obtain ⟨-, -, -, -, hA, hok2⟩ := H.out
        have hks := ((Keeps.refl [rb] wr).set (p := ⟨rb, 2, none⟩) (.inl (by simp)) (.bool false)).set (p := ⟨rb, 3, none⟩) (.inl (by simp)) (.int .i64 (-1))
        have hB2 := ((hb.put 2 (.bool false)).put 3 (.int .i64 (-1))).eq (cs' := #[.slice fa fl.length c, .int .i64 (d.room : Nat), .bool false, .int .i64 (-1), .int .i64 (d.count : Nat)]) (by simp)
        rw [← cutFl_length (keep := keep) (i := i) (fl := fl)] at hB2
        have hM2 := HR.out.1.own' (room' := d.room) (count' := d.count) (halt' := -1) (off' := false) hks hB2
        have hnm : d.names = (rfs fl).map (·.1) := hA.names
        refine ⟨rfl, ⟨cutFl keep i fl, fa, c, hM2, ?_, cutFl_feet.symm, hok2⟩, (HK0.out.of_nil.trans HR.out.2).step hks (fun x hx => .inl (by simp at hx; subst hx; exact .head _))⟩
        rw [cutFl_rfs, HIE.out, ← rfs_length]
        exact hA.crash d.names hnm : CrashPost w (rfeet rb fa fl) rb (d.crash keep) (.returned (.tuple #[])) W)
      have HF := Lib.hid hfin
      clear hfin
      go_wp2_with fail
      go_end0
      exact HF.out _ rfl
    · obtain ⟨x, hx⟩ : ∃ x, fl[i]? = some x := ⟨_, List.getElem?_eq_getElem hil⟩
      have hxi := cutFl_get (keep := keep) hx
      obtain ⟨g, rfl, hgl, -, -, -⟩ := HR.out.1.cells hxi
      have hrun := HR.out.1.runs hxi rfl
      obtain ⟨hs1, hs2⟩ := H.out.2.2.2.1 i x hx
      obtain ⟨hs3, hs4⟩ := crashLen keep i x.f hs1
      obtain ⟨q, hq⟩ : ∃ q, q = (crashF keep i x.f).sure := ⟨_, rfl⟩
      rw [← hq] at hs3 hs4
      obtain ⟨kk, rfl⟩ : ∃ kk, q = x.f.sure + kk := ⟨q - x.f.sure, by omega⟩
      obtain ⟨N, hN⟩ : ∃ N, N = fl.length := ⟨_, rfl⟩
      have n1 : (i : Int) < (fl.length : Int) := by omega
      have n2 : (0 : Int) ≤ (i : Int) := by omega
      have HRn := Lib.hid hrun
      have HX := Lib.hid (And.intro hx (And.intro hxi hq))
      have hX := Blk.fresh wr 65 #[.string ⟨x.n.toArray⟩, .slice x.ao x.f.b.length x.c, .int .i64 (x.f.sure : Nat)]
      have hk2 := (Keeps.refl [] wr).alloc (.cells #[.string ⟨x.n.toArray⟩, .slice x.ao x.f.b.length x.c, .int .i64 (x.f.sure : Nat)] 65)
      have hb2 := hb.keep hk2 (by simp)
      have hBx2 := hBx.keep (HR.out.2.trans hk2.of_nil) HB3.out
      clear hrun hx hxi hq hN
      go_upto_region 5 with (first | (refine wpList_load_run rfl 65 _ rfl g (i * 3) rfl [.string ⟨x.n.toArray⟩, .slice x.ao x.f.b.length x.c, .int .i64 (x.f.sure : Nat)] HRn.out _ Tryd.underlying65 rfl sizeRF ?_) | (refine wpList_store_fresh rfl rfl _ _ _ rfl _ rfl rfl _ rfl _ _ sizeRF (by simp) rfl ?_))
      change Code.wp _ _ _ _ (World.alloc wr (.cells #[.string ⟨x.n.toArray⟩, .slice x.ao x.f.b.length x.c, .int .i64 (x.f.sure : Nat)] 65))
      have HK2 := Lib.hid hk2
      have hsl : wr.heap.size < (World.alloc wr (.cells #[.string ⟨x.n.toArray⟩, .slice x.ao x.f.b.length x.c, .int .i64 (x.f.sure : Nat)] 65)).heap.size := hX.lt
      clear hbc hbl HRn hk2
      generalize World.alloc wr _ = w2 at *
      generalize hss : wr.heap.size = s at *
      have hcX := hX.cell
      have hlX := hX.lt
      have hcB := hBx2.cell
      have hlB := hBx2.lt
      go_upto_if 27 with (fail)
      go_cut [6] (fun v wx => v = .int .i64 (kk : Int) ∧ Keeps [] w2 wx)
      case first =>
        by_cases hik : i < keep.length
        · obtain ⟨k, hkk⟩ : ∃ k, keep[i]? = some k := ⟨_, List.getElem?_eq_getElem hik⟩
          have n3 : (i : Int) < (keep.length : Int) := by omega
          have hS := (H.out.2.1.keep (HR.out.2) (fun ad e h => H.out.2.2.1 ad e (fun h0 => h (by rw [h0]; rfl)))).keep0 HK2.out
          have hcap := hS.cap
          obtain ⟨kb, ko, rfl⟩ := hS.at (by omega)
          have ck : w2.cell? ⟨kb, ko + i, none⟩ = some (.int .i64 k) := by
            have := hS.cells rfl i (.int .i64 k) (by rw [List.getElem?_map, hkk]; rfl)
            rwa [addr_add rfl] at this
          have hcr := HX.out.2.2
          unfold crashF at hcr
          rw [hkk] at hcr
          simp only [] at hcr
          obtain ⟨m, hm⟩ : ∃ m, m = x.f.b.length - x.f.sure := ⟨_, rfl⟩
          have q1 : IntKind.i64.wrap ((x.f.b.length : Int) - (x.f.sure : Int)) = (x.f.b.length : Int) - (x.f.sure : Int) := IntWalk.i64_in _ (by omega)
          have hmm : (x.f.b.length : Int) - (x.f.sure : Int) = (m : Int) := by omega
          clear hS hkk
          rcases (by omega : k ≤ 0 ∨ (0 < k ∧ k < (m : Int)) ∨ (m : Int) ≤ k) with h1 | ⟨h1, h2⟩ | h1
          · obtain rfl : kk = 0 := by omega
            have g1 : min k ((x.f.b.length : Int) - (x.f.sure : Int)) = k := by omega
            have g2 : max 0 k = 0 := by omega
            clear hcr hm hmm
            go_upto_region 7 with (fail)
            go_quiet (fail)
            go_wp2_with fail
            go_meet
            exact ⟨rfl, (Keeps.refl _ _).drewN _⟩
          · obtain rfl : k = (kk : Int) := by omega
            have g1 : min (kk : Int) ((x.f.b.length : Int) - (x.f.sure : Int)) = (kk : Int) := by omega
            have g2 : max 0 (kk : Int) = (kk : Int) := by omega
            clear hcr hm hmm
            go_upto_region 7 with (fail)
            go_quiet (fail)
            go_wp2_with fail
            go_meet
            exact ⟨rfl, (Keeps.refl _ _).drewN _⟩
          · obtain rfl : kk = m := by omega
            have g1 : min k ((x.f.b.length : Int) - (x.f.sure : Int)) = (kk : Int) := by omega
            have g2 : max 0 (kk : Int) = (kk : Int) := by omega
            have HMM := Lib.hid hmm
            have h3 : (x.f.b.length : Int) - (x.f.sure : Int) ≤ k := by omega
            have h4 : (0 : Int) ≤ (x.f.b.length : Int) - (x.f.sure : Int) := by omega
            clear hcr hm hmm g1 g2
            go_upto_region 7 with (fail)
            go_quiet (fail)
            go_wp2_with fail
            all_goals go_meet
            all_goals exact ⟨congrArg (Value.int .i64) (by have := HMM.out; omega), (Keeps.refl _ _).drewN _⟩
        · have n3 : ¬ ((i : Int) < (keep.length : Int)) := by omega
          have hcr := HX.out.2.2
          unfold crashF at hcr
          rw [List.getElem?_eq_none (by omega)] at hcr
          simp only [] at hcr
          obtain rfl : kk = 0 := by omega
          clear hcr hik
          go_wp2_with fail
          go_meet
          exact ⟨rfl, Keeps.refl _ _⟩
      case rest =>
      generalize wc = w3 at *
      obtain ⟨rfl, hk3⟩ := hcut
      have hX3 := hX.keep hk3 (by simp)
      have hb3' := hb2.keep hk3 (by simp)
      have HK3 := Lib.hid hk3
      have hxc : x.f.b.length ≤ x.c := by
        have := (HR.out.1.file x (List.mem_of_getElem? HX.out.2.1)).caps
        exact this
      clear hcX hlX hcB hlB hk3 hX hBx2
      have hc3 := hX3.cell
      have hf3 := hX3.free
      have n5 : (0 : Int) ≤ (x.f.sure : Int) + (kk : Int) := by omega
      have n6 : (x.f.sure : Int) + (kk : Int) ≤ (x.c : Int) := by omega
      go_upto_region 9 with (fail)
      have hX4 := (hX3.put 1 (.slice x.ao (x.f.sure + kk) x.c)).eq (cs' := #[.string ⟨x.n.toArray⟩, .slice x.ao (x.f.sure + kk) x.c, .int .i64 (x.f.sure : Nat)]) (by simp)
      have hk4 := (Keeps.refl [s] w3).set (p := ⟨s, 1, none⟩) (.inl (by simp)) (.slice x.ao (x.f.sure + kk) x.c)
      have hrs : rb ≠ s := by have := hb.lt; omega
      have hb4 := hb3'.keep hk4 (by simpa using hrs)
      generalize World.setCell w3 _ _ = w4 at *
      clear hc3 hf3
      have hc4 := hX4.cell
      have hf4 := hX4.free
      go_upto_region 10 with (fail)
      have hX5 := (hX4.put 2 (.int .i64 ((x.f.sure : Int) + (kk : Int)))).eq (cs' := #[.string ⟨x.n.toArray⟩, .slice x.ao (x.f.sure + kk) x.c, .int .i64 ((x.f.sure : Int) + (kk : Int))]) (by simp)
      have hk5 := (Keeps.refl [s] w4).set (p := ⟨s, 2, none⟩) (.inl (by simp)) (.int .i64 ((x.f.sure : Int) + (kk : Int)))
      have hb5 := hb4.keep hk5 (by simpa using hrs)
      generalize World.setCell w4 _ _ = w5 at *
      clear hc4 hf4
      have hM := HR.out.1
      have hsg : s ≠ g := by omega
      have hk05 : Keeps [s] wr w5 := ((HK2.out.of_nil.step HK3.out (fun x hx => by cases hx)).step hk4 (fun x hx => .inl hx)).step hk5 (fun x hx => .inl hx)
      have hoffs : ∀ y ∈ rfeet rb (some ⟨g, 0, none⟩) (cutFl keep i fl), y ∉ [s] := fun y hy => by
        have := hM.lt y hy
        simp
        omega
      have hM5 := hM.keep hk05 hoffs
      obtain ⟨g', cur, e, _, hBg, hcs, hnc, hcm, htk⟩ := ownsRow_blk hM5.own (by rw [cutFl_length]; omega) (by decide)
      simp only [Option.some.injEq, Addr.mk.injEq, and_true] at e
      subst e
      rw [cutFl_length] at hnc
      have HM5 := Lib.hid (And.intro hM5 hk05)
      have HC := Lib.hid hcs
      clear hM hk05 hoffs hM5 htk hcs hcm hk4 hk5
      have hR0 : (∀ W : World, Keeps [] w5 W → ∀ q ∈ [((3 : Nat), fun w0 : World => w0.cell? ⟨rb, 0, none⟩ = some (.slice (some ⟨g, 0, none⟩) fl.length c)), ((5 : Nat), fun w0 : World => ∀ j v, ([.string ⟨x.n.toArray⟩, .slice x.ao (x.f.sure + kk) x.c, .int .i64 ((x.f.sure : Int) + (kk : Int))] : List Value)[j]? = some v → w0.cell? ⟨s, j, none⟩ = some v)], q.2 W) := fun W hW => rdsR (hW.cellSome (hb5.cell 0) (by simp)) (fun j v hj => by
        refine hW.cellSome ((hX5.cell j).trans ?_) (by simp)
        rw [← hj, ← Array.getElem?_toList])
      have hkd := (Keeps.refl [] w5).drew
      have hSw := hR0 _ hkd
      clear hR0
      refine startU [((3 : Nat), fun w0 : World => w0.cell? ⟨rb, 0, none⟩ = some (.slice (some ⟨g, 0, none⟩) fl.length c)), ((5 : Nat), fun w0 : World => ∀ j v, ([.string ⟨x.n.toArray⟩, .slice x.ao (x.f.sure + kk) x.c, .int .i64 ((x.f.sure : Int) + (kk : Int))] : List Value)[j]? = some v → w0.cell? ⟨s, j, none⟩ = some v)] (by kernel_rfl) ?_
      generalize w5.drew = w6 at *
      have hB6 := hBg.keep hkd (by simp)
      refine takeU (i := 0) (v := ?_) rfl (by kernel_rfl) (fun _ _ _ h => h) (Or.inl ⟨by rfl, fun w0 hw0 => ?_⟩) (fun p hp _ => hSw p hp) ?_
      rotate_left
      · simp [Reads] at hw0
        go_simp
        try with_reducible rfl
      try go_simp
      refine takeU (i := 1) (v := ?_) rfl (by kernel_rfl) (fun _ _ _ h => h) (Or.inl ⟨by rfl, fun w0 hw0 => ?_⟩) (fun p hp _ => hSw p hp) ?_
      rotate_left
      · simp [Reads] at hw0
        go_simp
        try with_reducible rfl
      try go_simp
      refine takeU (i := 2) (v := ?_) rfl (by kernel_rfl) (fun _ _ _ h => h) (Or.inl ⟨by rfl, fun w0 hw0 => ?_⟩) (fun p hp _ => hSw p hp) ?_
      rotate_left
      · simp [Reads] at hw0
        go_simp
        try with_reducible rfl
      try go_simp
      refine takeU (i := 3) (v := ?_) rfl (by kernel_rfl) (fun _ _ _ h => h) (Or.inl ⟨by rfl, fun w0 hw0 => ?_⟩) (fun p hp _ => hSw p hp) ?_
      rotate_left
      · simp [Reads] at hw0
        go_simp
        try with_reducible rfl
      try go_simp
      refine takeU (i := 4) (v := ?_) rfl (by kernel_rfl) (fun _ _ _ h => h) (Or.inl ⟨by rfl, fun w0 hw0 => ?_⟩) (fun p hp _ => hSw p hp) ?_
      rotate_left
      · simp [Reads] at hw0
        go_simp
        try with_reducible rfl
      try go_simp
      refine takeU (i := 5) (v := .agg #[.string ⟨x.n.toArray⟩, .slice x.ao (x.f.sure + kk) x.c, .int .i64 ((x.f.sure : Int) + (kk : Int))]) rfl (by kernel_rfl) (fun _ _ _ h => h) (Or.inl ⟨by rfl, fun w0 hw0 => ?_⟩) (fun p hp _ => hSw p hp) ?_
      · simp [Reads] at hw0
        exact yields_runR 65 _ rfl s 0 rfl ([.string ⟨x.n.toArray⟩, .slice x.ao (x.f.sure + kk) x.c, .int .i64 ((x.f.sure : Int) + (kk : Int))] : List Value) (fun j v hj => by rw [Nat.zero_add]; exact hw0 j v hj) _ Tryd.underlying65 rfl sizeRF
      try go_simp
      refine takeU (i := 6) (v := ?_) rfl (by kernel_rfl) (fun _ _ _ h => h) (Or.inl ⟨by rfl, fun w0 hw0 => ?_⟩) (fun p hp _ => hSw p hp) ?_
      rotate_left
      · simp [Reads] at hw0
        go_simp
        try with_reducible rfl
      try go_simp
      clear hSw
      refine oneU (i := 7) rfl (by kernel_rfl) (fun K hK => ?_)
      refine step_store_agg rfl rfl 65 _ _ rfl g (i * 3) rfl ([.string ⟨x.n.toArray⟩, .slice x.ao (x.f.sure + kk) x.c, .int .i64 ((x.f.sure : Int) + (kk : Int))] : List Value) rfl 65 cur hB6 sizeRF (by rw [HC.out]; simp; omega) rfl ?_
      intro w7 hB7 hk7
      refine hK _ _ (fun p hp h1 _ => by simp only [List.mem_cons, List.not_mem_nil, or_false] at hp; rcases hp with rfl | rfl <;> exact waits_absurd h1 (by kernel_rfl)) ?_
      clear hK K
      try go_simp
      refine doneU (by kernel_rfl) ?_
      have hk7' := hkd.of_nil.step hk7 (fun x hx => .inl hx)
      replace hk7 := hk7'
      clear hk7'
      have hxs := HX.out.2.2
      have hcl : (x.cut keep i).cells = ([.string ⟨x.n.toArray⟩, .slice x.ao (x.f.sure + kk) x.c, .int .i64 ((x.f.sure : Int) + (kk : Int))] : List Value) := by
        have h1 : (x.cut keep i).f.b.length = x.f.sure + kk := by
          show (crashF keep i x.f).b.length = _
          rw [crashF_b, ← hxs, List.length_take]
          omega
        unfold RfM.cells
        rw [h1]
        show [_, _, Value.int .i64 ((crashF keep i x.f).sure : Nat)] = _
        rw [← hxs]
        simp [RfM.cut]
      have hM7 : RM w7 rb d.room d.count d.halt d.off (cutFl keep (i + 1) fl) (some ⟨g, 0, none⟩) c := by
        rw [cutFl_succ HX.out.1]
        refine HM5.out.1.lay HX.out.2.1 hBg (by rw [hcl]; exact hB7) hk7 ?_
        show OwnG w5 x.ao x.c (crashF keep i x.f).b
        rw [crashF_b, ← hxs]
        exact (HM5.out.1.file x (List.mem_of_getElem? HX.out.2.1)).cut (by omega) (by omega) (Nat.le_refl _)
      have hk17 : Keeps (rfeet rb (some ⟨g, 0, none⟩) fl) w1 w7 := ((HR.out.2).step HM5.out.2 (fun x hx => .inr (by simp at hx; have := HR.out.2.size; omega))).step hk7 (fun x hx => .inl (by simp at hx; subst hx; exact mem_rfeet.2 (.inr (.inl (.head _)))))
      have FIN := Lib.hid (And.intro hM7 hk17)
      have q3 : IntKind.i64.wrap ((i : Int) + 1) = i + 1 := IntWalk.i64_in _ (by omega)
      clear hM7 hk17 hcl hxs hB7 hk7 hX3 hX4 hX5 hBg hb2 hb3' hb4 hb5
      go_wp2_with fail
      go_roundw
      case rel => exact ⟨i + 1, by simp, by omega, FIN.out.1, FIN.out.2⟩
      case measure => simp [intOf]; omega
end
end Go.Proofs.YtcebbgmjbincbaaDoor
