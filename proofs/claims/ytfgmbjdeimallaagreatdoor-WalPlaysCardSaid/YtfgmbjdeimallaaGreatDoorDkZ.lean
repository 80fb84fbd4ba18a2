/- A crash of the disk on plain data. -/
import Derived.Test.YtfgmbjdeimallaaGreatDoorDka
import Derived.Test.YtfgmbjdeimallaaGreatDoorDk9

namespace Go.Proofs.YtfgmbjdeimallaaGreatDoor
open Go.RowKit Go.Lib


section
variable {α β : Type}
theorem mget_map2 (g : List UInt8 → α → β) (n : List UInt8) : ∀ fs : List (List UInt8 × α), mget n (fs.map fun f => (f.1, g f.1 f.2)) = (mget n fs).map (g n)
  | [] => rfl
  | f :: r => by
    by_cases e : f.1 = n
    · subst e; simp [mget]
    · simp [mget, e, mget_map2 g n r]
theorem mput_map2 (g : List UInt8 → α → β) (n : List UInt8) (v : β) : ∀ fs : List (List UInt8 × α), (fs.map (·.1)).Nodup → n ∈ fs.map (·.1) → mput n v (fs.map fun f => (f.1, g f.1 f.2)) = fs.map fun f => (f.1, if f.1 = n then v else g f.1 f.2)
  | [], _, h => by simp at h
  | f :: r, hn, h => by
    simp only [List.map_cons, List.nodup_cons] at hn
    by_cases e : f.1 = n
    · subst e
      simp only [List.map_cons, mput, if_true, List.cons.injEq, true_and]
      refine List.map_congr_left fun x hx => ?_
      rw [if_neg (fun e : x.1 = f.1 => hn.1 (by rw [← e]; exact List.mem_map.2 ⟨x, hx, rfl⟩))]
    · have h' : n ∈ r.map (·.1) := by
        simp only [List.map_cons, List.mem_cons] at h
        exact h.resolve_left (fun e' => e e'.symm)
      simp only [List.map_cons, mput, if_neg e]
      rw [mput_map2 g n v r hn.2 h']
end
theorem feet_eq {mb : Nat} {n : List UInt8} {x x' : FlM} (hfb : x'.fb = x.fb) (hao : x'.ao = x.ao) : ∀ {fl : List (List UInt8 × FlM)}, mget n fl = some x → feet mb (mput n x' fl) = feet mb fl := by
  have hf : x'.feet = x.feet := by simp [FlM.feet, hfb, hao]
  intro fl h
  have go : ∀ fl : List (List UInt8 × FlM), mget n fl = some x → (mput n x' fl).flatMap (fun f => f.2.feet) = fl.flatMap (fun f => f.2.feet) := by
    intro fl
    induction fl with
    | nil => intro h; simp [mget] at h
    | cons f r ih =>
      intro h
      unfold mget at h
      by_cases e : f.1 = n
      · rw [if_pos e] at h
        obtain rfl := Option.some.inj h
        simp [mput, e, hf]
      · rw [if_neg e] at h
        simp [mput, e, ih h]
  simp [feet, go fl h]

section
variable (d : DSt) (keep : List Int)
theorem DSt.names_perm : d.names.Perm (d.fs.map (·.1)) := List.mergeSort_perm _ _
/-- the first i files, in the names' order, have fallen -/
def DSt.crashI (i : Nat) : DSt := { d with fs := d.fs.map fun f => (f.1, (fun n x => if d.names.idxOf n < i then crashF keep (d.names.idxOf n) x else x) f.1 f.2) }
theorem DSt.crashI_zero : d.crashI keep 0 = d := by
  simp [DSt.crashI]
variable {d keep}
theorem DSt.crashI_get {i : Nat} {n : List UInt8} (hi : d.names[i]? = some n) (hn : (d.fs.map (·.1)).Nodup) : mget n (d.crashI keep i).fs = mget n d.fs := by
  have hnd : d.names.Nodup := (d.names_perm.nodup_iff).2 hn
  have hidx : d.names.idxOf n = i := by
    obtain ⟨hl, he⟩ := List.getElem?_eq_some_iff.1 hi
    rw [← he]
    exact hnd.idxOf_getElem i hl
  unfold DSt.crashI
  simp only
  rw [mget_map2 (fun n x => if d.names.idxOf n < i then crashF keep (d.names.idxOf n) x else x)]
  cases mget n d.fs with
  | none => rfl
  | some f => simp [hidx]
theorem DSt.crashI_succ {i : Nat} {n : List UInt8} {f : Fil} (hi : d.names[i]? = some n) (hn : (d.fs.map (·.1)).Nodup) (hf : mget n d.fs = some f) : (d.crashI keep (i + 1)).fs = mput n (crashF keep i f) (d.crashI keep i).fs := by
  have hnd : d.names.Nodup := (d.names_perm.nodup_iff).2 hn
  have hidx : d.names.idxOf n = i := by
    obtain ⟨hl, he⟩ := List.getElem?_eq_some_iff.1 hi
    rw [← he]
    exact hnd.idxOf_getElem i hl
  unfold DSt.crashI
  simp only
  rw [mput_map2 (fun n x => if d.names.idxOf n < i then crashF keep (d.names.idxOf n) x else x) n _ d.fs hn (mget_key hf)]
  refine List.map_congr_left fun x hx => ?_
  by_cases e : x.1 = n
  · have hx2 : x.2 = f := by
      have := mget_of_mem hn (show (n, x.2) ∈ d.fs by rw [← e]; exact hx)
      rw [hf] at this
      exact (Option.some.inj this).symm
    rw [if_pos e, e, hidx, if_pos (by omega), hx2]
  · rw [if_neg e]
    have hne : d.names.idxOf x.1 ≠ i := fun h => by
      apply e
      have hm : x.1 ∈ d.names := d.names_perm.mem_iff.2 (List.mem_map.2 ⟨x, hx, rfl⟩)
      have hlt := List.idxOf_lt_length_of_mem hm
      have h1 : d.names[d.names.idxOf x.1]'hlt = x.1 := List.getElem_idxOf hlt
      obtain ⟨hl, he⟩ := List.getElem?_eq_some_iff.1 hi
      rw [← he, ← h1]
      congr 1
    by_cases hlt : d.names.idxOf x.1 < i
    · rw [if_pos hlt, if_pos (by omega)]
    · rw [if_neg hlt, if_neg (by omega)]
theorem DSt.crashI_all : { d.crashI keep d.names.length with halt := -1, off := false } = d.crash keep := by
  unfold DSt.crashI DSt.crash
  simp only [DSt.mk.injEq, and_true]
  refine List.map_congr_left fun x hx => ?_
  rw [if_pos]
  exact List.idxOf_lt_length_of_mem (d.names_perm.mem_iff.2 (List.mem_map.2 ⟨x, hx, rfl⟩))
theorem crashF_le (i : Nat) (f : Fil) (h : f.sure ≤ f.b.length) : (crashF keep i f).sure ≤ f.b.length := by
  unfold crashF
  simp only
  split
  · simpa using h
  · rename_i k _
    have h2 : (0 : Int) ≤ max k 0 := Int.le_max_right _ _
    show f.sure + (min (max k 0) ((f.b.length - f.sure : Nat) : Int)).toNat ≤ f.b.length
    have : min (max k 0) ((f.b.length - f.sure : Nat) : Int) ≤ ((f.b.length - f.sure : Nat) : Int) := Int.min_le_right _ _
    omega
theorem crashF_b (i : Nat) (f : Fil) : (crashF keep i f).b = f.b.take (crashF keep i f).sure := rfl
end

theorem run_lookup1_kv {P : Program} {t k e : TypeId} {w : World} {b : Nat} {fs : List (List UInt8 × Value)} (h : MapAt w b fs) (ht : P.underlying t = some (.map k e)) (hk : P.underlying k = some .string) {v : Value} (s : List UInt8) (hv : mget s fs = some v) :
    (Instr.lookup t (.map (some b)) (.string ⟨s.toArray⟩) false).run P w = .ok v w := by
  obtain ⟨es, clock, h1, h2, h3⟩ := h
  have hf := findNow_kv (s := s) es.toList fs 0 h3
  have hks : MapKept.IsKey .string (.string ⟨s.toArray⟩) := trivial
  cases hm : mfind s fs 0 with
  | none =>
    obtain ⟨_, _, _, hg⟩ := mfind_none fs 0 hm
    rw [hv] at hg
    cases hg
  | some p =>
    obtain ⟨j, u⟩ := p
    obtain ⟨_, _, _, _, _, hg⟩ := mfind_some fs 0 j u hm
    rw [hm] at hf
    rw [hv] at hg
    obtain rfl := Option.some.inj hg
    simp [Instr.lookup, run_underlying ht, MapKept.run_getObj_map h1, MapKept.run_checkKey hk hks, MapKept.run_findKey hk hf, Result.andThen]
end Go.Proofs.YtfgmbjdeimallaaGreatDoor
/- The disk: Crash. -/

namespace Go.Proofs.YtfgmbjdeimallaaGreatDoor
open Go.RowKit Go.Lib


theorem encStr_at {l : List (List UInt8)} {i : Nat} {n : List UInt8} (h : l[i]? = some n) : (l.map Go.Proofs.encStr)[i * 1 + 0]? = some (.string ⟨n.toArray⟩) := by
  rw [Nat.mul_one, Nat.add_zero, List.getElem?_map, h]
  rfl

section
variable {w : World} {L : List Nat} {db : Nat} {d : DSt}
set_option maxRecDepth 100000 in
set_option maxHeartbeats 8000000 in
theorem dcrash (h : Disk w L db d) (keep : List Int) {ka : Option Addr} {kc : Nat} (hK : Sl w 1 ka keep.length kc (keep.map (Value.int .i64))) (hko : ∀ ad, ka = some ad → keep ≠ [] → ad.block ∉ L) :
    Calls Tryz.prog 16 #[.pointer (some ⟨db, 0, none⟩), .agg #[.slice ka keep.length kc]] w fun e w' => e = .returned (.tuple #[]) ∧ Disk w' L db (d.crash keep) ∧ Keeps L w w' := by
  obtain ⟨mb, fl, h⟩ := h
  have hltL := h.lt
  have hdb := h.mem_db
  have hkm := hK.most
  have hkc := hK.cap
  have hkA := (Keeps.refl [] w).alloc (.cells #[.slice ka keep.length kc] 29)
  have hCA := Blk.fresh w 29 #[.slice ka keep.length kc]
  have h1 := h.keep hkA (by simp)
  have hK1 := hK.keep0 hkA
  go_enter Tryz.func16, Tryz.ntmps16
  go_wp2_with fail
  refine (dlist ⟨mb, fl, h1⟩).mono ?_
  rintro e w2 ⟨ao, c, rfl, hN, hNb, hk2⟩
  have h2 := h1.keep hk2 (by simp)
  have hC2 := hCA.keep hk2 (by simp)
  have hK2 := hK1.keep0 hk2
  have hNb' : ∀ ad, ao = some ad → ad.block ∉ L := fun ad e hx => by
    have := hltL _ hx
    have := hNb ad e
    simp at this
    omega
  have hCL : w.heap.size ∉ L := fun hx => by have := hltL _ hx; omega
  have hk02 := hkA.trans hk2
  have HH := Lib.hid (And.intro h2 (And.intro hC2 (And.intro hK2 (And.intro hN (And.intro hNb' hk02)))))
  generalize w.heap.size = cb at *
  clear h2 hC2 hK2 hN hNb hNb' h1 hK1 hCA hkA hk2 hK h hk02
  go_wp2_with fail
  go_loopw [12] (fun v wr => ∃ (i : Nat) (fl' : List (List UInt8 × FlM)), v = .int .i64 (i : Int) ∧ i ≤ d.names.length ∧ DiskAt wr L db (d.crashI keep i) mb fl' ∧ Keeps L w2 wr) (fun v _ => d.names.length - (intOf v).toNat)
  case atStart => exact ⟨0, fl, rfl, Nat.zero_le _, by rw [DSt.crashI_zero]; exact HH.out.1, Keeps.refl _ _⟩
  case round =>
    obtain ⟨i, fl', rfl, hin, hD, hkr⟩ := hrel
    have hCr := HH.out.2.1.keep hkr hCL
    rcases (by omega : i = d.names.length ∨ i < d.names.length) with hie | hil
    · have m1 : ¬ ((i : Int) < (d.names.length : Int)) := by omega
      have hbc := hD.blk.cell
      have hbf := hD.blk.free
      have hok : (d.crash keep).Ok := by
        rw [← DSt.crashI_all, ← hie]
        exact ⟨hD.ok.used, hD.ok.room, hD.ok.few, hD.ok.name, hD.ok.sure, hD.ok.most, by simp, hD.ok.nodup⟩
      have hk34 := ((Keeps.refl [db] wr).set (p := ⟨db, 5, none⟩) (.inl (by simp)) (.bool false)).set (p := ⟨db, 4, none⟩) (.inl (by simp)) (.int .i64 (-1))
      have FIN := Lib.hid (show Disk ((wr.setCell ⟨db, 5, none⟩ (.bool false)).setCell ⟨db, 4, none⟩ (.int .i64 (-1))) L db (d.crash keep) ∧ Keeps L w ((wr.setCell ⟨db, 5, none⟩ (.bool false)).setCell ⟨db, 4, none⟩ (.int .i64 (-1))) from by
        refine ⟨⟨mb, fl', ?_⟩, (HH.out.2.2.2.2.2.of_nil.trans hkr).trans (hk34.mono (by simpa using hdb))⟩
        have := hD.own (d' := d.crash keep) hk34 (by
          rw [← DSt.crashI_all, ← hie]
          exact ((hD.blk.put 5 (.bool false)).put 4 (.int .i64 (-1))).eq (by simp)) (by rw [← DSt.crashI_all, ← hie]) hok
        exact this)
      clear hD hok hk34 hkr hCr
      go_wp2_with fail
      go_end0
      exact ⟨rfl, FIN.out.1, FIN.out.2⟩
    · obtain ⟨n, hni⟩ : ∃ n, d.names[i]? = some n := ⟨_, List.getElem?_eq_getElem hil⟩
      have m1 : (i : Int) < (d.names.length : Int) := by omega
      have hnd : (d.fs.map (·.1)).Nodup := HH.out.1.ok.nodup
      obtain ⟨f0, hf0⟩ : ∃ f0, mget n d.fs = some f0 := by
        have hmem : n ∈ d.fs.map (·.1) := d.names_perm.mem_iff.1 (List.mem_of_getElem? hni)
        obtain ⟨x, hx, rfl⟩ := List.mem_map.1 hmem
        exact ⟨x.2, mget_of_mem hnd hx⟩
      have hgi := DSt.crashI_get (keep := keep) hni hnd
      have hsu := DSt.crashI_succ (keep := keep) hni hnd hf0
      rw [hf0, hD.mget] at hgi
      obtain ⟨x, hx, rfl⟩ := Option.map_eq_some_iff.1 hgi
      obtain ⟨bb, oo, rfl⟩ : ∃ b o, ao = some ⟨b, o, none⟩ := HH.out.2.2.2.1.at (by have := HH.out.2.2.2.1.cap; omega)
      have hname : wr.cell? ⟨bb, oo + i, none⟩ = some (.string ⟨n.toArray⟩) := by
        have hN' := HH.out.2.2.2.1.keep hkr (fun ad e _ => HH.out.2.2.2.2.1 ad e)
        have := hN'.cell _ rfl _ _ (encStr_at hni)
        simpa using this
      have hlk := run_lookup1_kv hD.files.map Tryz.underlying68 Tryz.underlying9 n (v := .pointer (some ⟨x.fb, 0, none⟩)) (by rw [ptrs_mget, hx]; rfl)
      have hbc := hD.blk.cell
      have hcc := hCr.cell
      have n1 : (0 : Int) ≤ (i : Int) := by omega
      have q1 : IntKind.i64.wrap ((i : Int) + 1) = i + 1 := IntWalk.i64_in _ (by
        have := HH.out.2.2.2.1.cap
        have := HH.out.2.2.2.1.most
        unfold maxLen at this
        omega)
      have hX : FileAt wr x := hD.files.file (n, x) (mget_mem hx)
      have hsz := hX.sure
      have hmo := hX.most
      have hxc := hX.blk.cell
      obtain ⟨kk, hkk⟩ : ∃ kk : Nat, kk = (crashF keep i x.toFil).sure - x.sure := ⟨_, rfl⟩
      have hcr : (crashF keep i x.toFil).sure = x.sure + kk := by
        rw [hkk]
        have : x.sure ≤ (crashF keep i x.toFil).sure := by unfold crashF; simp
        omega
      have hle : x.sure + kk ≤ x.b.length := by
        have := crashF_le (keep := keep) i x.toFil hX.sure
        rw [← hcr]
        exact this
      have hkv : ∀ k, keep[i]? = some k → kk = (min (max k 0) ((x.b.length - x.sure : Nat) : Int)).toNat := fun k hk => by
        rw [hkk]
        unfold crashF
        simp [hk]
      have hk0 : keep[i]? = none → kk = 0 := fun hk => by
        rw [hkk]
        unfold crashF
        simp [hk]
      have HK0 := Lib.hid hk0
      have HKV := Lib.hid hkv
      have HCR := Lib.hid hcr
      have q2 : IntKind.i64.wrap ((x.b.length : Int) - (x.sure : Int)) = (x.b.length : Int) - (x.sure : Int) := IntWalk.i64_in _ (by omega)
      have q3 : wrap64 ((x.b.length : Int) - (x.sure : Int)) = (x.b.length : Int) - (x.sure : Int) := by unfold wrap64; omega
      have HSU := Lib.hid hsu
      clear hkv hcr hkk hgi hsu hk0
      go_upto_if 27 with (fail)
      go_cut [7] (fun v7 wx => v7 = .int .i64 (kk : Nat) ∧ Keeps [] wr wx)
      case first =>
        by_cases hik : i < keep.length
        · have m2 : (i : Int) < (keep.length : Int) := by omega
          obtain ⟨kv, hkv⟩ : ∃ kv, keep[i]? = some kv := ⟨_, List.getElem?_eq_getElem hik⟩
          obtain ⟨kb, ko, rfl⟩ : ∃ b o, ka = some ⟨b, o, none⟩ := HH.out.2.2.1.at (by omega)
          have hkr' : wr.cell? ⟨kb, ko + i, none⟩ = some (.int .i64 kv) := by
            have hK' := HH.out.2.2.1.keep hkr (fun ad e h0 => hko ad e (by rintro rfl; simp at h0))
            have := hK'.cell _ rfl i (.int .i64 kv) (by rw [List.getElem?_map, hkv]; rfl)
            simpa using this
          have HV := Lib.hid (show (kk : Int) = min (max kv 0) ((x.b.length : Int) - (x.sure : Int)) by
            have := HKV.out kv hkv
            omega)
          clear hkv q2
          go_upto_region 7 with (fail)
          go_quiet (fail)
          rw [← HV.out]
          have hkd := (Keeps.refl [] wr).drewN nq
          go_wp2_with fail
          go_meet
          exact ⟨rfl, hkd⟩
        · have m2 : ¬ ((i : Int) < (keep.length : Int)) := by omega
          obtain rfl : kk = 0 := HK0.out (List.getElem?_eq_none (by omega))
          go_wp2_with fail
          go_meet
          exact ⟨rfl, Keeps.refl _ _⟩
      case rest =>
      obtain ⟨rfl, hkw⟩ := hcut
      replace hD := hD.keep hkw (by simp)
      replace hX := hX.keep hkw (by simp)
      clear hbc hxc hcc hname hlk hCr
      have hbc := hD.blk.cell
      have hbf := hD.blk.free
      have hxc := hX.blk.cell
      have hxf := hX.blk.free
      replace hkr := hkr.trans hkw.of_nil
      clear hkw
      have q4 : IntKind.i64.wrap ((x.sure : Int) + (kk : Int)) = ((x.sure + kk : Nat) : Int) := by
        rw [IntWalk.i64_in _ (by omega)]
        omega
      obtain ⟨y, hy⟩ : ∃ y : Nat, y = usedOf (d.crashI keep i).fs := ⟨_, rfl⟩
      obtain ⟨y', hy'⟩ : ∃ y' : Nat, y' = usedOf (d.crashI keep (i + 1)).fs := ⟨_, rfl⟩
      have hmd : mget n (d.crashI keep i).fs = some x.toFil := by rw [hD.mget, hx]; rfl
      have huy : y' + x.b.length = y + (x.sure + kk) := by
        have := usedOf_mput (n := n) (f := crashF keep i x.toFil) (fs := (d.crashI keep i).fs)
        rw [hmd, ← HSU.out, ← hy, ← hy', crashF_b, HCR.out] at this
        simp at this
        omega
      have hyx : x.b.length ≤ y := by rw [hy]; exact usedOf_le hmd
      have hyM : y ≤ 9223372036854775807 := by rw [hy]; exact Nat.le_trans hD.ok.used hD.ok.room
      have hB3 : Blk wc db 70 #[.map (some mb), .int .i64 (d.room : Nat), .int .i64 (y : Nat), .int .i64 (d.count : Nat), .int .i64 d.halt, .bool d.off] := by rw [hy]; exact hD.blk
      clear hbc hbf
      have hbc := hB3.cell
      have hbf := hB3.free
      have q5 : IntKind.i64.wrap ((x.b.length : Int) - ((x.sure + kk : Nat) : Int)) = (x.b.length : Int) - ((x.sure + kk : Nat) : Int) := IntWalk.i64_in _ (by omega)
      have q6 : IntKind.i64.wrap ((y : Int) - ((x.b.length : Int) - ((x.sure + kk : Nat) : Int))) = (y' : Int) := by
        rw [IntWalk.i64_in _ (by omega)]
        omega
      have HY := Lib.hid hy
      have HY' := Lib.hid hy'
      obtain ⟨p, hp⟩ : ∃ p : Nat, p = x.sure + kk := ⟨_, rfl⟩
      have HP := Lib.hid hp
      rw [← hp] at q4 q5 q6 hle
      clear hy hy' huy hp
      go_upto_region 9 with (fail)
      refine wp_region_still_tail 14 (by kernel_rfl) (by kernel_rfl) ?_
      change wpStill _ _ (World.drew _) _ _ _
      simp only [List.take_succ_cons, List.take_zero, List.drop_succ_cons, List.drop_zero]
      repeat still_step
      refine wpStill_nil ?_
      change wpList _ _ _ _ _ (World.drew _)
      go_upto_region 10 with (fail)
      have hB4 := (hB3.put 2 (.int .i64 (y' : Nat))).drew
      have hk34 := ((Keeps.refl [db] wc).set (p := ⟨db, 2, none⟩) (.inl (by simp)) (.int .i64 (y' : Nat))).drew
      generalize World.drew (World.setCell wc _ _) = w4 at *
      replace hB4 := hB4.eq (cs' := #[.map (some mb), .int .i64 (d.room : Nat), .int .i64 (y' : Nat), .int .i64 (d.count : Nat), .int .i64 d.halt, .bool d.off]) (by simp)
      have hF4 := hD.files.keep hk34 (fun y hy => by simp; rintro rfl; exact hD.db_off hy)
      clear hxc hxf hbc hbf q5 q6 hB3
      replace hX : FileAt w4 x := hF4.file (n, x) (mget_mem hx)
      have hxc := hX.blk.cell
      have hxf := hX.blk.free
      have hcap := hX.own.caps
      have n2 : (0 : Int) ≤ (p : Int) := by omega
      have hcap' : p ≤ x.c := by omega
      have n3 : (p : Int) ≤ (x.c : Int) := by omega
      have hk45 := ((Keeps.refl [x.fb] w4).set (p := ⟨x.fb, 0, none⟩) (.inl (by simp)) (.slice x.ao p p)).set (p := ⟨x.fb, 1, none⟩) (.inl (by simp)) (.int .i64 (p : Nat))
      have fin : DiskAt ((w4.setCell ⟨x.fb, 0, none⟩ (.slice x.ao p p)).setCell ⟨x.fb, 1, none⟩ (.int .i64 (p : Nat))) L db (d.crashI keep (i + 1)) mb (mput n ⟨⟨x.b.take p, p⟩, x.fb, x.ao, p⟩ fl') ∧ Keeps L w2 ((w4.setCell ⟨x.fb, 0, none⟩ (.slice x.ao p p)).setCell ⟨x.fb, 1, none⟩ (.int .i64 (p : Nat))) := by
        have hcp : crashF keep i x.toFil = ⟨x.b.take p, p⟩ := by
          have e1 : (crashF keep i x.toFil).sure = p := by rw [HCR.out, HP.out]
          have e2 := crashF_b (keep := keep) i x.toFil
          rw [e1] at e2
          cases hh : crashF keep i x.toFil with
          | mk bb ss =>
            rw [hh] at e1 e2
            simp only at e1 e2
            rw [e1, e2]
        have hF5 := hF4.turn_b (x' := ⟨⟨x.b.take p, p⟩, x.fb, x.ao, p⟩) hx rfl rfl hk45 (((hX.blk.put 0 (.slice x.ao p p)).put 1 (.int .i64 (p : Nat))).eq (by simp [hle])) ((hX.own.cut hle (Nat.le_refl p) hcap').keep hk45 (fun y hy => by simp; rintro rfl; exact hX.ne_buf hX hy)) (by simp; omega) (by simp; omega)
        have hdf : db ≠ x.fb := fun e => hD.db_off (mem_feet.2 (.inr ⟨(n, x), mget_mem hx, by rw [e]; exact .head _⟩))
        have hxm : x.fb ∈ L := by rw [hD.feet]; exact .tail _ (mem_feet.2 (.inr ⟨(n, x), mget_mem hx, .head _⟩))
        have hfs : (d.crashI keep (i + 1)).fs = mput n ⟨x.b.take p, p⟩ (d.crashI keep i).fs := by rw [HSU.out, hcp]
        have hok : (d.crashI keep (i + 1)).Ok := by
          have h7 : usedOf (d.crashI keep i).fs ≤ d.room := hD.ok.used
          have := hD.ok.put (n := n) (f := ⟨x.b.take p, p⟩) (by simp; omega) (by simp; omega) (by
            rw [DSt.got_some hmd]
            show usedOf (d.crashI keep i).fs + (x.b.take p).length ≤ d.room + x.b.length
            simp
            omega) (fun e => by rw [hmd] at e; cases e)
          rw [show d.crashI keep (i + 1) = { d.crashI keep i with fs := mput n ⟨x.b.take p, p⟩ (d.crashI keep i).fs } by rw [← hfs]; rfl]
          exact this
        refine ⟨⟨?_, hF5, by rw [hfs, hD.fs, fils_mput], by rw [feet_eq (x := x) (x' := ⟨⟨x.b.take p, p⟩, x.fb, x.ao, p⟩) rfl rfl hx]; exact hD.feet, hok⟩, (hkr.trans (hk34.mono (by simpa using hdb))).trans (hk45.mono (by simpa using hxm))⟩
        rw [← HY'.out]
        exact hB4.keep hk45 (by simpa using hdf)
      have FIN := Lib.hid fin
      clear fin hX hB4 hF4 hk45 hk34 hD hkr hmd
      go_wp2_with fail
      go_roundw
      case rel => exact ⟨i + 1, _, by simp, by omega, FIN.out.1, FIN.out.2⟩
      case measure => simp [intOf]; omega
end
end Go.Proofs.YtfgmbjdeimallaaGreatDoor
