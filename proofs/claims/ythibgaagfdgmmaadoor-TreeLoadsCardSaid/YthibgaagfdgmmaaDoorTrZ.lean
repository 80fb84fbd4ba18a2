/- Numbers that were read stand in their own bytes; pairs laid behind the others. -/
import Derived.Test.YthibgaagfdgmmaaDoorWr
import Derived.Test.YthibgaagfdgmmaaDoorTr28
import Derived.Test.YthibgaagfdgmmaaDoorTr29
import Derived.Test.YthibgaagfdgmmaaDoorErrW
import Derived.Test.YthibgaagfdgmmaaDoorWin2
namespace Go.Proofs.YthibgaagfdgmmaaDoor
open Go.RowKit Go.Lib

theorem rdU_back : ∀ (l : List UInt8) (k acc n s : Nat), rdU k acc l = (n, s, 0) → ∃ m j, s = k + j ∧ j ≤ l.length ∧ n = acc + m * 2 ^ (7 * k) ∧ l.take j = uvarint m ∧ (0 < k → m ≠ 0)
  | [], k, acc, n, s, h => by
    rw [rdU] at h
    simp only [Prod.mk.injEq] at h
    have := h.2.2
    split at this <;> omega
  | b :: l, k, acc, n, s, h => by
    rw [rdU] at h
    split at h
    · simp only [Prod.mk.injEq] at h
      omega
    · rename_i h1
      split at h
      · rename_i h2
        simp only [Prod.mk.injEq] at h
        refine ⟨b.toNat, 1, by omega, by simp, by omega, ?_, by omega⟩
        rw [uvarint_small h2, List.take_one]
        simp [Nat.toUInt8]
      · rename_i h2
        obtain ⟨m, j, e1, e2, e3, e4, e5⟩ := rdU_back l (k + 1) _ n s h
        have hm := e5 (by omega)
        have hb := b.toNat_lt
        refine ⟨b.toNat - 128 + 128 * m, j + 1, by omega, by simpa using e2, ?_, ?_, by omega⟩
        · rw [e3, show 7 * (k + 1) = 7 * k + 7 by omega, Nat.pow_add, show (2 : Nat) ^ 7 = 128 from rfl]
          generalize 2 ^ (7 * k) = X
          generalize b.toNat - 128 = y
          rw [Nat.add_mul, Nat.mul_comm X 128, ← Nat.mul_assoc, Nat.mul_comm m 128, Nat.add_assoc]
        · rw [uvarint_big (by omega), show (b.toNat - 128 + 128 * m) % 128 = b.toNat - 128 by omega, show (b.toNat - 128 + 128 * m) / 128 = m by omega, List.take_succ_cons, e4]
          have e6 : b.toNat.toUInt8 = b := by simp [Nat.toUInt8]
          rw [show b.toNat - 128 + 128 = b.toNat by omega, e6]
theorem rdU_whole {l : List UInt8} {n s : Nat} (h : rdU 0 0 l = (n, s, 0)) : l = uvarint n ++ l.drop s ∧ s ≤ l.length ∧ (uvarint n).length = s := by
  obtain ⟨m, j, e1, e2, e3, e4, _⟩ := rdU_back l 0 0 n s h
  have hs : s = j := by omega
  have hn : n = m := by simpa using e3
  subst hs hn
  have e5 : (uvarint n).length = s := by rw [← e4, List.length_take]; omega
  refine ⟨?_, e2, e5⟩
  rw [← e4, List.take_append_drop]
theorem ins_end {k v : Bs} {l : List KV} (h : ∀ p ∈ l, ltB p.1 k = true) : ins k v l = l ++ [(k, v)] := by
  unfold ins
  rw [lo_all h, hi_none fun p hp => ltB_asymm (h p hp)]
/-- the last key of pairs -/
def lastK (l : List KV) : Bs := (l.getLast?.map (·.1)).getD []
theorem lastK_snoc (l : List KV) (k v : Bs) : lastK (l ++ [(k, v)]) = k := by simp [lastK]
theorem below_last {l : List KV} {k : Bs} (hs : Srt l) (h : l = [] ∨ ltB (lastK l) k = true) : ∀ p ∈ l, ltB p.1 k = true := by
  rcases h with rfl | h
  · simp
  · intro p hp
    rcases List.eq_nil_or_concat l with rfl | ⟨m, q, rfl⟩
    · cases hp
    · rw [List.concat_eq_append] at *
      obtain ⟨k0, v0⟩ := q
      rw [lastK_snoc] at h
      rcases List.mem_append.1 hp with hp | hp
      · exact ltB_trans ((Srt.app.1 hs).2.2 p hp (k0, v0) (by simp)) h
      · simp at hp
        rw [hp]
        exact h
end Go.Proofs.YthibgaagfdgmmaaDoor
/- text: bytes with their length ahead. -/

namespace Go.Proofs.YthibgaagfdgmmaaDoor
open Go.RowKit Go.Lib

/-- a part's error -/
def InW (w : World) (g : Nat) : Prop := ∃ p v, Blk w g 56 #[.string p, v]
theorem InW.keep0 {w w' : World} {g : Nat} (h : InW w g) (hk : Keeps [] w w') : InW w' g := by
  obtain ⟨p, v, h⟩ := h
  exact ⟨p, v, h.keep hk (by simp)⟩
/-- what text hands back -/
def TextAns (ao : Option Addr) (c : Nat) (b : Bs) (w : World) (e : Ending) (w' : World) : Prop :=
  Keeps [] w w' ∧ ((∃ x r a1 a2 c2, e = .returned (.tuple #[.slice a1 x.length x.length, .slice a2 r.length c2, .nilIface]) ∧ b = tx x ++ r ∧ ∀ W, Rb W ao c b → Rb W a1 x.length x ∧ Rb W a2 c2 r) ∨
    (∃ g, e = .returned (.tuple #[.slice none 0 0, .slice none 0 0, .iface 52 (.pointer (some ⟨g, 0, none⟩))]) ∧ InW w' g))

theorem text_fin {b : Bs} {n s c bb o : Nat} (hc : b.length ≤ c) (e1 : b = uvarint n ++ b.drop s) (e3 : (uvarint n).length = s) (hs : s ≤ b.length) (hns : n ≤ b.length - s) :
    ((b.drop s).take n).length = n ∧ (b.drop (s + n)).length = b.length - (s + n) ∧ b = tx ((b.drop s).take n) ++ b.drop (s + n) ∧
    ∀ W, Rb W (some ⟨bb, o, none⟩) c b → Rb W (if n = 0 then some ⟨bb, o, none⟩ else some ⟨bb, o + s, none⟩) n ((b.drop s).take n) ∧ Rb W (if c = s + n then some ⟨bb, o, none⟩ else some ⟨bb, o + (s + n), none⟩) (c - (s + n)) (b.drop (s + n)) := by
  have hx : ((b.drop s).take n).length = n := by rw [List.length_take, List.length_drop]; omega
  have hr : (b.drop (s + n)).length = b.length - (s + n) := List.length_drop
  have d1 : ∀ k (l : Bs), (bys l).drop k = bys (l.drop k) := fun k l => by simp [bys, List.map_drop]
  have d2 : ∀ k (l : Bs), (bys l).take k = bys (l.take k) := fun k l => by simp [bys, List.map_take]
  refine ⟨hx, hr, ?_, fun W hW => ⟨?_, ?_⟩⟩
  · unfold tx textB
    rw [hx]
    conv => lhs; rw [e1, ← List.take_append_drop n (b.drop s), List.drop_drop]
    rw [List.append_assoc]
  · by_cases hn : n = 0
    · subst hn
      have := hW.take (k := 0) (c' := 0) (by omega) (by omega) (by omega)
      have e : (b.drop s).take 0 = [] := rfl
      unfold Rb
      rw [if_pos rfl, e]
      simpa [bys] using this
    · rw [if_neg hn]
      have h1 := hW.drop (k := s) hs
      rw [if_neg (by omega), Nat.mul_one, d1] at h1
      have h2 := h1.take (k := n) (c' := n) (by omega) (by omega) (by omega)
      rw [Nat.mul_one, d2] at h2
      unfold Rb
      rw [hx]
      simpa [addr_add] using h2
  · have h1 := hW.drop (k := s + n) (by omega)
    rw [Nat.mul_one, d1] at h1
    unfold Rb
    rw [hr]
    split
    · rename_i h
      rw [if_pos h] at h1
      exact h1
    · rename_i h
      rw [if_neg h] at h1
      simpa [addr_add] using h1

set_option maxRecDepth 100000 in
set_option maxHeartbeats 4000000 in
theorem text_any (ao : Option Addr) (c : Nat) (b : Bs) (w : World) (h : Rb w ao c b) (hl : b.length ≤ 1000000) :
    Calls Tryd.prog 36 #[.slice ao b.length c] w fun e w' => TextAns ao c b w e w' := by
  have HU := uint_any ao c b w h
  obtain ⟨n, s, er, hr⟩ : ∃ n s er, rdU 0 0 b = (n, s, er) := ⟨_, _, _, rfl⟩
  rw [hr] at HU
  have HR := Lib.hid hr
  clear hr
  go_enter Tryd.func36, Tryd.ntmps36
  go_wp2_with fail
  refine HU.mono ?_
  rintro e w1 ⟨ev, rfl, hE, hnil, hk1⟩
  clear HU
  by_cases h0 : er = 0
  · subst h0
    obtain rfl := hnil.2 rfl
    obtain ⟨e1, e2, e3⟩ := rdU_whole HR.out
    have HW := Lib.hid (And.intro e1 e3)
    have hbl := b.length
    have hne : 0 < s := by have := uvarint_pos n; omega
    clear e1 e3 hE hnil
    have q1 : IntKind.i64.wrap ((b.length : Int) - (s : Int)) = ((b.length - s : Nat) : Int) := by rw [IntWalk.i64_in _ (by omega)]; omega
    have q2 : IntKind.u64.wrap ((b.length - s : Nat) : Int) = ((b.length - s : Nat) : Int) := IntWalk.u64_in _ (by omega)
    by_cases hns : b.length - s < n
    · have n1 : ((b.length - s : Nat) : Int) < (n : Int) := by omega
      go_wp2_with fail
      go_ret3
      exact ⟨hk1.alloc _, .inr ⟨_, rfl, _, _, Blk.fresh _ _ _⟩⟩
    · have n1 : ¬ (((b.length - s : Nat) : Int) < (n : Int)) := by omega
      have q3 : IntKind.i64.wrap (n : Int) = (n : Int) := IntWalk.i64_in _ (by omega)
      have q4 : IntKind.i64.wrap ((s : Int) + (n : Int)) = ((s + n : Nat) : Int) := by rw [IntWalk.i64_in _ (by omega)]; omega
      have hcap := h.cap
      obtain ⟨bb, o, rfl⟩ := h.at (by omega)
      have p0 : (0 : Int) ≤ (s : Int) := by omega
      have p1 : (s : Int) ≤ ((s + n : Nat) : Int) := by omega
      have p2 : ((s + n : Nat) : Int) ≤ (c : Int) := by omega
      have p3 : ((s + n : Nat) : Int) ≤ (b.length : Int) := by omega
      have p4 : (0 : Int) ≤ ((s + n : Nat) : Int) := by omega
      by_cases hn0 : n = 0
      · by_cases hc : c = s + n
        · go_wp2_with fail
          go_quiet (fail)
          go_wp2_with fail
          go_ret3
          obtain ⟨hx, hr2, hb, hW⟩ := text_fin (bb := bb) (o := o) hcap HW.out.1 HW.out.2 e2 (by omega)
          refine ⟨hk1.drewN _, .inl ⟨(b.drop s).take n, b.drop (s + n), some ⟨bb, o, none⟩, some ⟨bb, o, none⟩, c - (s + n), ?_, hb, fun W h => ?_⟩⟩
          · rw [hx, hr2]
            simp [hn0, hc]
          · have := hW W h
            rw [if_pos hn0, if_pos hc] at this
            rw [hx]
            exact this
        · go_wp2_with fail
          go_quiet (fail)
          go_wp2_with fail
          go_ret3
          obtain ⟨hx, hr2, hb, hW⟩ := text_fin (bb := bb) (o := o) hcap HW.out.1 HW.out.2 e2 (by omega)
          refine ⟨hk1.drewN _, .inl ⟨(b.drop s).take n, b.drop (s + n), some ⟨bb, o, none⟩, some ⟨bb, o + (s + n), none⟩, c - (s + n), ?_, hb, fun W h => ?_⟩⟩
          · rw [hx, hr2]
            simp [hn0]
          · have := hW W h
            rw [if_pos hn0, if_neg hc] at this
            rw [hx]
            exact this
      · by_cases hc : c = s + n
        · go_wp2_with fail
          go_quiet (fail)
          go_wp2_with fail
          go_ret3
          obtain ⟨hx, hr2, hb, hW⟩ := text_fin (bb := bb) (o := o) hcap HW.out.1 HW.out.2 e2 (by omega)
          refine ⟨hk1.drewN _, .inl ⟨(b.drop s).take n, b.drop (s + n), some ⟨bb, o + s, none⟩, some ⟨bb, o, none⟩, c - (s + n), ?_, hb, fun W h => ?_⟩⟩
          · rw [hx, hr2]
            simp [hc]
          · have := hW W h
            rw [if_neg hn0, if_pos hc] at this
            rw [hx]
            exact this
        · go_wp2_with fail
          go_quiet (fail)
          go_wp2_with fail
          go_ret3
          obtain ⟨hx, hr2, hb, hW⟩ := text_fin (bb := bb) (o := o) hcap HW.out.1 HW.out.2 e2 (by omega)
          refine ⟨hk1.drewN _, .inl ⟨(b.drop s).take n, b.drop (s + n), some ⟨bb, o + s, none⟩, some ⟨bb, o + (s + n), none⟩, c - (s + n), ?_, hb, fun W h => ?_⟩⟩
          · rw [hx, hr2]
            simp
          · have := hW W h
            rw [if_neg hn0, if_neg hc] at this
            rw [hx]
            exact this
  · obtain ⟨g, p, rfl, hB⟩ : ∃ g p, ev = .iface 52 (.pointer (some ⟨g, 0, none⟩)) ∧ Blk w1 g 56 #[.string p, .iface 58 (.int .i64 er)] := by
      rcases hE with ⟨rfl, hx⟩ | hE
      · omega
      · exact hE
    go_wp2_with fail
    go_ret3
    exact ⟨hk1.alloc _, .inr ⟨_, rfl, _, _, Blk.fresh _ _ _⟩⟩
end Go.Proofs.YthibgaagfdgmmaaDoor
/- load. Printed by tools/genTr34.py. -/

namespace Go.Proofs.YthibgaagfdgmmaaDoor
open Go.RowKit Go.Lib

/-- load's errors -/
def LErr (w : World) (ev : Value) : Prop :=
  (∃ g, ev = .iface 52 (.pointer (some ⟨g, 0, none⟩)) ∧ InW w g) ∨
  (∃ q a g, ev = .iface 87 (.pointer (some ⟨q, 0, none⟩)) ∧ Blk w q 89 #[.int .i64 a, .iface 52 (.pointer (some ⟨g, 0, none⟩))] ∧ InW w g) ∨
  (∃ q a, ev = .iface 87 (.pointer (some ⟨q, 0, none⟩)) ∧ Blk w q 89 #[.int .i64 a, .iface 58 (.int .i64 20)]) ∨
  ev = .iface 58 (.int .i64 20)
/-- what load hands back -/
def LoadAns (b : Bs) (w : World) (e : Ending) (w' : World) : Prop :=
  Keeps [] w w' ∧ ((∃ t l F, e = .returned (.tuple #[.pointer (some ⟨t, 0, none⟩), .nilIface]) ∧ TreeAt w' F t l ∧ b = dumpB uvarint l) ∨ (∃ ev, e = .returned (.tuple #[.pointer none, ev]) ∧ ev ≠ .nilIface ∧ LErr w' ev))
theorem built_PC (a c : Int) : Tryd.prog.built 89 [(0, .int .i64 a), (1, .iface 58 (.int .i64 c))] = some #[.int .i64 a, .iface 58 (.int .i64 c)] := by kernel_rfl
theorem built_PW (a : Int) (g : Nat) : Tryd.prog.built 89 [(0, .int .i64 a), (1, .iface 52 (.pointer (some ⟨g, 0, none⟩)))] = some #[.int .i64 a, .iface 52 (.pointer (some ⟨g, 0, none⟩))] := by kernel_rfl
theorem flat_len (l : List KV) : l.length ≤ ((l.map enc).flatten).length := by
  induction l with
  | nil => simp
  | cons p m ih =>
    have : 1 ≤ (enc p).length := by
      have := tx_pos p.1
      simp [enc]
      omega
    simp only [List.map_cons, List.flatten_cons, List.length_append, List.length_cons]
    omega
theorem tx_len (b : Bs) : b.length ≤ (tx b).length := by simp [tx, textB]
theorem TreeAt.blk1 {w : World} {F : Nat → Prop} {t : Nat} {l : List KV} (h : TreeAt w F t l) : w.cell? ⟨t, 1, none⟩ = some (.int .i64 (l.length : Nat)) := by
  obtain ⟨⟨d, root, hB, _⟩, _⟩ := h
  exact hB.cell 1

set_option maxRecDepth 100000 in
set_option maxHeartbeats 8000000 in
theorem load_any (ao : Option Addr) (c : Nat) (b : Bs) (w : World) (h : Rb w ao c b) (hl : b.length ≤ 1000000) :
    Calls Tryd.prog 22 #[.slice ao b.length c] w fun e w' => LoadAns b w e w' := by
  have HU := uint_any ao c b w h
  obtain ⟨n, s, er, hr⟩ : ∃ n s er, rdU 0 0 b = (n, s, er) := ⟨_, _, _, rfl⟩
  rw [hr] at HU
  have HR := Lib.hid hr
  clear hr
  go_enter Tryd.func22, Tryd.ntmps22
  go_wp2_with fail
  refine HU.mono ?_
  rintro e w1 ⟨ev, rfl, hE, hnil, hk1⟩
  clear HU
  by_cases h0 : er = 0
  · subst h0
    obtain rfl := hnil.2 rfl
    obtain ⟨e1, e2, e3⟩ := rdU_whole HR.out
    have HW := Lib.hid (And.intro e1 e3)
    have hne : 0 < s := by have := uvarint_pos n; omega
    clear e1 e3 hE hnil
    go_wp2_with fail
    refine (tnew w1).mono ?_
    rintro e w2 ⟨t, rfl, hta, hT0, hk2⟩
    have hk02 := hk1.trans hk2
    have hwt : w.heap.size ≤ t := Nat.le_trans hk1.size hta
    have hT : TreeAt w2 (fun x => x ≠ t) t [] := hT0.mono (fun x hx _ => hx.2) (fun h => h rfl)
    have hcap := h.cap
    obtain ⟨bb, o, rfl⟩ := h.at (by omega)
    have HS := Lib.hid (And.intro hT hk02)
    clear hT hT0 hta hk1 hk2 hk02
    have s1 : (s : Int) ≤ (b.length : Int) := by omega
    have s2 : (0 : Int) ≤ (s : Int) := by omega
    have s3 : ((b.length : Int) - (s : Int)) = ((b.length - s : Nat) : Int) := by omega
    obtain ⟨rs, hrs⟩ : ∃ rs, rs = b.drop s := ⟨_, rfl⟩
    have hrl : b.length - s = rs.length := by rw [hrs, List.length_drop]
    obtain ⟨a2, ha2⟩ : ∃ a2 : Option Addr, a2 = (if c = s then some ⟨bb, o, none⟩ else some ⟨bb, o + s, none⟩) := ⟨_, rfl⟩
    have hRs : ∀ W, Rb W (some ⟨bb, o, none⟩) c b → Rb W a2 (c - s) rs := fun W hW => by
      have h1 := hW.drop (k := s) e2
      have e : (bys b).drop (s * 1) = bys rs := by rw [hrs, Nat.mul_one]; simp [bys, List.map_drop]
      rw [e, hrl] at h1
      unfold Rb
      rw [ha2]
      split
      · rename_i hcs
        rw [if_pos hcs] at h1
        exact h1
      · rename_i hcs
        rw [if_neg hcs] at h1
        simpa [addr_add] using h1
    have hb0 : b = uvarint n ++ rs := by rw [hrs]; exact HW.out.1
    have HRS := Lib.hid (And.intro hRs hb0)
    have HA2 := Lib.hid ha2
    have HRL := Lib.hid hrl
    clear hRs hb0 hrs ha2 hrl
    by_cases hcs : c = s
    · go_wp2_with fail
      go_loopw [0, 8, 9] (fun bv lv iv wr => ∃ (l : List KV) (rest : Bs) (ab : Option Addr) (cb : Nat) (la : Option Addr) (lc : Nat), bv = .slice ab rest.length cb ∧ lv = .slice la (lastK l).length lc ∧ iv = .int .u64 (l.length : Nat) ∧ l.length ≤ n ∧ b = uvarint n ++ (l.map enc).flatten ++ rest ∧ (∀ W, Rb W (some ⟨bb, o, none⟩) c b → Rb W ab cb rest ∧ Rb W la lc (lastK l)) ∧ TreeAt wr (fun x => x ≠ t) t l ∧ Keeps [] w wr) (fun _ _ iv _ => n - (intOf iv).toNat)
      case atStart => exact ⟨[], rs, some ⟨bb, o, none⟩, c - s, none, 0, by first | (rw [← HRL.out]; done) | (rw [← HRL.out]; simp [hcs]), rfl, rfl, Nat.zero_le _, by simpa using HRS.out.2, fun W hW => ⟨by have := HRS.out.1 W hW; rw [HA2.out, if_pos hcs] at this; exact this, Sl.none W 1⟩, HS.out.1, HS.out.2⟩
      case round =>
        clear HS s1 s2 s3
        obtain ⟨l, rest, ab, cb, la, lc, rfl, rfl, rfl, hln, hbe, hRW, hT, hkr⟩ := hrel
        obtain ⟨hRr, hRl⟩ := hRW _ (h.keep0 hkr)
        have hll := flat_len l
        have hbl : l.length + rest.length ≤ 1000000 := by
          have := congrArg List.length hbe
          simp only [List.length_append] at this
          omega
        have hsr := hT.srt
        have HBE := Lib.hid hbe
        have HRW := Lib.hid hRW
        clear hbe hRW hll
        rcases (by omega : l.length = n ∨ l.length < n) with hie | hil
        · have n2 : ¬ ((l.length : Int) < (n : Int)) := by omega
          have HIE := Lib.hid hie
          clear hie
          by_cases hr0 : rest = []
          · subst hr0
            go_wp2_with fail
            go_ret2
            refine ⟨hkr, .inl ⟨t, l, _, rfl, hT, ?_⟩⟩
            rw [HBE.out, List.append_nil, ← HIE.out]
            rfl
          · have n3 : (0 : Int) < (rest.length : Int) := by have := List.length_pos_iff.2 hr0; omega
            clear hr0
            go_wp2_with fail
            go_ret2
            exact ⟨hkr, .inr ⟨_, rfl, by simp, .inr (.inr (.inr rfl))⟩⟩
        · have n2 : (l.length : Int) < (n : Int) := by omega
          have q1 : IntKind.u64.wrap ((l.length : Int) + 1) = (l.length : Int) + 1 := IntWalk.u64_in _ (by omega)
          go_wp2_with fail
          refine (text_any ab cb rest _ hRr (by omega)).mono ?_
          rintro e w3 ⟨hk3, hres⟩
          have hk03 := hkr.trans hk3
          have hT3 := hT.keep0 hk3
          rcases hres with ⟨x, r, a1, a2, c2, rfl, hrx, hW1⟩ | ⟨g, rfl, hgw⟩
          · have hlx : x.length + r.length ≤ rest.length := by
              have h1 := congrArg List.length hrx
              have h2 := tx_len x
              simp only [List.length_append] at h1
              omega
            have HRX := Lib.hid hrx
            have HW1 := Lib.hid hW1
            clear hrx hW1 hT hRr
            go_wp2_with fail
            refine (text_any a2 c2 r _ (HW1.out _ (HRW.out _ (h.keep0 hk03)).1).2 (by omega)).mono ?_
            rintro e w4 ⟨hk4, hres2⟩
            have hk04 := hk03.trans hk4
            have hT4 := hT3.keep0 hk4
            have ct := hT4.blk1
            have htl := hT4.lt
            obtain ⟨hR4, hL4⟩ := HRW.out _ (h.keep0 hk04)
            have hx4 := (HW1.out _ hR4).1
            have hr4 := (HW1.out _ hR4).2
            have bP := built_PC (l.length : Nat) 20
            rcases hres2 with ⟨y, r2, a3, a4, c4, rfl, hry, hW2⟩ | ⟨g, rfl, hgw⟩
            · have hly : y.length + r2.length ≤ r.length := by
                have h1 := congrArg List.length hry
                have h2 := tx_len y
                simp only [List.length_append] at h1
                omega
              have HRY := Lib.hid hry
              have HW2 := Lib.hid hW2
              have hy4 := (hW2 _ hr4).1
              clear hry hW2 hT3
              by_cases hl0 : l = []
              · have HL0 := Lib.hid (show l = [] ∨ ltB (lastK l) x = true from .inl hl0)
                have n5 : ¬ ((0 : Int) < (l.length : Int)) := by subst hl0; simp
                clear hl0
                go_wp2_with fail
                refine (tput (k := x) (v := y) hT4 hx4 hy4 (by omega) (by omega) (by omega)).mono ?_
                rintro e w6 ⟨rfl, hT6, hk6⟩
                have hT7 : TreeAt w6 (fun x => x ≠ t) t (l ++ [(x, y)]) := by
                  have := hT6.mono (F' := fun x => x ≠ t) (fun z hz _ => by
                    rcases hz with hz | hz
                    · exact hz
                    · omega) (fun h => h rfl)
                  rwa [ins_end (below_last hsr HL0.out)] at this
                go_wp2_with fail
                go_roundw
                case rel =>
                  refine ⟨l ++ [(x, y)], r2, a4, c4, a1, x.length, by simp, by rw [lastK_snoc], by simp, by simp; omega, ?_, fun W hW => ⟨(HW2.out W (HW1.out W (HRW.out W hW).1).2).2, by rw [lastK_snoc]; exact (HW1.out W (HRW.out W hW).1).1⟩, hT7, hk04.step hk6 (fun z hz => .inr (by simp at hz; omega))⟩
                  rw [HBE.out, HRX.out, HRY.out]
                  simp [enc]
                case measure => simp [intOf]; omega
              · have n5 : (0 : Int) < (l.length : Int) := by have := List.length_pos_iff.2 hl0; omega
                have HLN := Lib.hid hl0
                clear hl0
                go_wp2_with fail
                refine (bcompare hL4 hx4).mono ?_
                rintro e w5 ⟨rfl, hw⟩
                obtain rfl := hw.symm
                rcases cmpL_range (lastK l) x with hc | hc | hc
                · have HL0 := Lib.hid (show l = [] ∨ ltB (lastK l) x = true from .inr (ltB_iff.2 hc))
                  rw [hc]
                  clear hc
                  go_wp2_with fail
                  refine (tput (k := x) (v := y) hT4 hx4 hy4 (by omega) (by omega) (by omega)).mono ?_
                  rintro e w6 ⟨rfl, hT6, hk6⟩
                  have hT7 : TreeAt w6 (fun x => x ≠ t) t (l ++ [(x, y)]) := by
                    have := hT6.mono (F' := fun x => x ≠ t) (fun z hz _ => by
                      rcases hz with hz | hz
                      · exact hz
                      · omega) (fun h => h rfl)
                    rwa [ins_end (below_last hsr HL0.out)] at this
                  go_wp2_with fail
                  go_roundw
                  case rel =>
                    refine ⟨l ++ [(x, y)], r2, a4, c4, a1, x.length, by simp, by rw [lastK_snoc], by simp, by simp; omega, ?_, fun W hW => ⟨(HW2.out W (HW1.out W (HRW.out W hW).1).2).2, by rw [lastK_snoc]; exact (HW1.out W (HRW.out W hW).1).1⟩, hT7, hk04.step hk6 (fun z hz => .inr (by simp at hz; omega))⟩
                    rw [HBE.out, HRX.out, HRY.out]
                    simp [enc]
                  case measure => simp [intOf]; omega
                · rw [hc]
                  clear hc
                  go_upto_region 15 with (fail)
                  have HR0 : (∀ W : World, Keeps [] w4 W → ∀ q ∈ [((3 : Nat), fun w0 : World => w0.cell? ⟨t, 1, none⟩ = some (.int .i64 (l.length : Nat)))], q.2 W) := fun W hW => rds1 (hW.cellSome ct (by simp))
                  have hkd := (Keeps.refl [] w4).drew
                  have hSw := HR0 _ hkd
                  have HRR := Lib.hid HR0
                  clear HR0
                  refine startU [((3 : Nat), fun w0 : World => w0.cell? ⟨t, 1, none⟩ = some (.int .i64 (l.length : Nat)))] (by kernel_rfl) ?_
                  generalize World.drew w4 = w6 at *
                  refine takeU (i := 0) (v := ?_) rfl (by kernel_rfl) (fun _ _ _ h => h) (Or.inl ⟨by rfl, fun w0 hw0 => ?_⟩) (fun p hp _ => hSw p hp) ?_
                  rotate_left
                  · simp [Reads] at hw0
                    go_simp
                    try with_reducible rfl
                  try go_simp
                  refine takeU (i := 1) (v := ?_) rfl (by kernel_rfl) (fun _ _ _ h => h) (Or.inl ⟨by rfl, fun w0 hw0 => ?_⟩) (fun p hp _ => hSw p hp) ?_
                  rotate_left
                  · simp [Reads] at hw0
                    go_simp
                    try with_reducible rfl
                  try go_simp
                  refine takeU (i := 2) (v := ?_) rfl (by kernel_rfl) (fun _ _ _ h => h) (Or.inl ⟨by rfl, fun w0 hw0 => ?_⟩) (fun p hp _ => hSw p hp) ?_
                  rotate_left
                  · simp [Reads] at hw0
                    go_simp
                    try with_reducible rfl
                  try go_simp
                  refine takeU (i := 3) (v := ?_) rfl (by kernel_rfl) (fun _ _ _ h => h) (Or.inl ⟨by rfl, fun w0 hw0 => ?_⟩) (fun p hp _ => hSw p hp) ?_
                  rotate_left
                  · simp [Reads] at hw0
                    go_simp
                    try with_reducible rfl
                  try go_simp
                  refine takeU (i := 4) (v := ?_) rfl (by kernel_rfl) (fun _ _ _ h => h) (Or.inl ⟨by rfl, fun w0 hw0 => ?_⟩) (fun p hp _ => hSw p hp) ?_
                  rotate_left
                  · simp [Reads] at hw0
                    go_simp
                    try with_reducible rfl
                  try go_simp
                  refine takeU (i := 5) (v := ?_) rfl (by kernel_rfl) (fun _ _ _ h => h) (Or.inl ⟨by rfl, fun w0 hw0 => ?_⟩) (fun p hp _ => hSw p hp) ?_
                  rotate_left
                  · simp [Reads] at hw0
                    go_simp
                    try with_reducible rfl
                  try go_simp
                  refine takeU (i := 8) (v := ?_) rfl (by kernel_rfl) (fun _ _ _ h => h) (Or.inl ⟨by rfl, fun w0 hw0 => ?_⟩) (fun p hp _ => hSw p hp) ?_
                  rotate_left
                  · simp [Reads] at hw0
                    go_simp
                    try with_reducible rfl
                  try go_simp
                  clear hSw
                  refine oneU (i := 6) rfl (by kernel_rfl) (fun K hK => ?_)
                  go_simp
                  refine hK _ _ (fun q hq _ _ => HRR.out _ (hkd.alloc _) q hq) ?_
                  clear hK K
                  try go_simp
                  have hSw := HRR.out _ (hkd.alloc (.cells #[.int .i64 (l.length : Nat), .iface 58 (.int .i64 20)] 89))
                  refine takeU (i := 7) (v := ?_) rfl (by kernel_rfl) (fun _ _ _ h => h) (Or.inl ⟨by rfl, fun w0 hw0 => ?_⟩) (fun p hp _ => hSw p hp) ?_
                  rotate_left
                  · simp [Reads] at hw0
                    go_simp
                    try with_reducible rfl
                  try go_simp
                  refine takeU (i := 9) (v := ?_) rfl (by kernel_rfl) (fun _ _ _ h => h) (Or.inl ⟨by rfl, fun w0 hw0 => ?_⟩) (fun p hp _ => hSw p hp) ?_
                  rotate_left
                  · simp [Reads] at hw0
                    go_simp
                    try with_reducible rfl
                  try go_simp
                  clear hSw
                  refine doneU (by kernel_rfl) ?_
                  go_wp2_with fail
                  go_ret2
                  exact ⟨(hk04.trans hkd).alloc _, .inr ⟨_, rfl, by simp, .inr (.inr (.inl ⟨_, _, rfl, Blk.fresh _ _ _⟩))⟩⟩
                · rw [hc]
                  clear hc
                  go_upto_region 15 with (fail)
                  have HR0 : (∀ W : World, Keeps [] w4 W → ∀ q ∈ [((3 : Nat), fun w0 : World => w0.cell? ⟨t, 1, none⟩ = some (.int .i64 (l.length : Nat)))], q.2 W) := fun W hW => rds1 (hW.cellSome ct (by simp))
                  have hkd := (Keeps.refl [] w4).drew
                  have hSw := HR0 _ hkd
                  have HRR := Lib.hid HR0
                  clear HR0
                  refine startU [((3 : Nat), fun w0 : World => w0.cell? ⟨t, 1, none⟩ = some (.int .i64 (l.length : Nat)))] (by kernel_rfl) ?_
                  generalize World.drew w4 = w6 at *
                  refine takeU (i := 0) (v := ?_) rfl (by kernel_rfl) (fun _ _ _ h => h) (Or.inl ⟨by rfl, fun w0 hw0 => ?_⟩) (fun p hp _ => hSw p hp) ?_
                  rotate_left
                  · simp [Reads] at hw0
                    go_simp
                    try with_reducible rfl
                  try go_simp
                  refine takeU (i := 1) (v := ?_) rfl (by kernel_rfl) (fun _ _ _ h => h) (Or.inl ⟨by rfl, fun w0 hw0 => ?_⟩) (fun p hp _ => hSw p hp) ?_
                  rotate_left
                  · simp [Reads] at hw0
                    go_simp
                    try with_reducible rfl
                  try go_simp
                  refine takeU (i := 2) (v := ?_) rfl (by kernel_rfl) (fun _ _ _ h => h) (Or.inl ⟨by rfl, fun w0 hw0 => ?_⟩) (fun p hp _ => hSw p hp) ?_
                  rotate_left
                  · simp [Reads] at hw0
                    go_simp
                    try with_reducible rfl
                  try go_simp
                  refine takeU (i := 3) (v := ?_) rfl (by kernel_rfl) (fun _ _ _ h => h) (Or.inl ⟨by rfl, fun w0 hw0 => ?_⟩) (fun p hp _ => hSw p hp) ?_
                  rotate_left
                  · simp [Reads] at hw0
                    go_simp
                    try with_reducible rfl
                  try go_simp
                  refine takeU (i := 4) (v := ?_) rfl (by kernel_rfl) (fun _ _ _ h => h) (Or.inl ⟨by rfl, fun w0 hw0 => ?_⟩) (fun p hp _ => hSw p hp) ?_
                  rotate_left
                  · simp [Reads] at hw0
                    go_simp
                    try with_reducible rfl
                  try go_simp
                  refine takeU (i := 5) (v := ?_) rfl (by kernel_rfl) (fun _ _ _ h => h) (Or.inl ⟨by rfl, fun w0 hw0 => ?_⟩) (fun p hp _ => hSw p hp) ?_
                  rotate_left
                  · simp [Reads] at hw0
                    go_simp
                    try with_reducible rfl
                  try go_simp
                  refine takeU (i := 8) (v := ?_) rfl (by kernel_rfl) (fun _ _ _ h => h) (Or.inl ⟨by rfl, fun w0 hw0 => ?_⟩) (fun p hp _ => hSw p hp) ?_
                  rotate_left
                  · simp [Reads] at hw0
                    go_simp
                    try with_reducible rfl
                  try go_simp
                  clear hSw
                  refine oneU (i := 6) rfl (by kernel_rfl) (fun K hK => ?_)
                  go_simp
                  refine hK _ _ (fun q hq _ _ => HRR.out _ (hkd.alloc _) q hq) ?_
                  clear hK K
                  try go_simp
                  have hSw := HRR.out _ (hkd.alloc (.cells #[.int .i64 (l.length : Nat), .iface 58 (.int .i64 20)] 89))
                  refine takeU (i := 7) (v := ?_) rfl (by kernel_rfl) (fun _ _ _ h => h) (Or.inl ⟨by rfl, fun w0 hw0 => ?_⟩) (fun p hp _ => hSw p hp) ?_
                  rotate_left
                  · simp [Reads] at hw0
                    go_simp
                    try with_reducible rfl
                  try go_simp
                  refine takeU (i := 9) (v := ?_) rfl (by kernel_rfl) (fun _ _ _ h => h) (Or.inl ⟨by rfl, fun w0 hw0 => ?_⟩) (fun p hp _ => hSw p hp) ?_
                  rotate_left
                  · simp [Reads] at hw0
                    go_simp
                    try with_reducible rfl
                  try go_simp
                  clear hSw
                  refine doneU (by kernel_rfl) ?_
                  go_wp2_with fail
                  go_ret2
                  exact ⟨(hk04.trans hkd).alloc _, .inr ⟨_, rfl, by simp, .inr (.inr (.inl ⟨_, _, rfl, Blk.fresh _ _ _⟩))⟩⟩
            · clear hT3
              go_upto_region 15 with (fail)
              have HR0 : (∀ W : World, Keeps [] w4 W → ∀ q ∈ [((3 : Nat), fun w0 : World => w0.cell? ⟨t, 1, none⟩ = some (.int .i64 (l.length : Nat)))], q.2 W) := fun W hW => rds1 (hW.cellSome ct (by simp))
              have hkd := (Keeps.refl [] w4).drew
              have hSw := HR0 _ hkd
              have HRR := Lib.hid HR0
              clear HR0
              refine startU [((3 : Nat), fun w0 : World => w0.cell? ⟨t, 1, none⟩ = some (.int .i64 (l.length : Nat)))] (by kernel_rfl) ?_
              generalize World.drew w4 = w6 at *
              refine takeU (i := 0) (v := ?_) rfl (by kernel_rfl) (fun _ _ _ h => h) (Or.inl ⟨by rfl, fun w0 hw0 => ?_⟩) (fun p hp _ => hSw p hp) ?_
              rotate_left
              · simp [Reads] at hw0
                go_simp
                try with_reducible rfl
              try go_simp
              refine takeU (i := 1) (v := ?_) rfl (by kernel_rfl) (fun _ _ _ h => h) (Or.inl ⟨by rfl, fun w0 hw0 => ?_⟩) (fun p hp _ => hSw p hp) ?_
              rotate_left
              · simp [Reads] at hw0
                go_simp
                try with_reducible rfl
              try go_simp
              refine takeU (i := 2) (v := ?_) rfl (by kernel_rfl) (fun _ _ _ h => h) (Or.inl ⟨by rfl, fun w0 hw0 => ?_⟩) (fun p hp _ => hSw p hp) ?_
              rotate_left
              · simp [Reads] at hw0
                go_simp
                try with_reducible rfl
              try go_simp
              refine takeU (i := 3) (v := ?_) rfl (by kernel_rfl) (fun _ _ _ h => h) (Or.inl ⟨by rfl, fun w0 hw0 => ?_⟩) (fun p hp _ => hSw p hp) ?_
              rotate_left
              · simp [Reads] at hw0
                go_simp
                try with_reducible rfl
              try go_simp
              refine takeU (i := 4) (v := ?_) rfl (by kernel_rfl) (fun _ _ _ h => h) (Or.inl ⟨by rfl, fun w0 hw0 => ?_⟩) (fun p hp _ => hSw p hp) ?_
              rotate_left
              · simp [Reads] at hw0
                go_simp
                try with_reducible rfl
              try go_simp
              refine takeU (i := 5) (v := ?_) rfl (by kernel_rfl) (fun _ _ _ h => h) (Or.inl ⟨by rfl, fun w0 hw0 => ?_⟩) (fun p hp _ => hSw p hp) ?_
              rotate_left
              · simp [Reads] at hw0
                go_simp
                try with_reducible rfl
              try go_simp
              refine takeU (i := 8) (v := ?_) rfl (by kernel_rfl) (fun _ _ _ h => h) (Or.inl ⟨by rfl, fun w0 hw0 => ?_⟩) (fun p hp _ => hSw p hp) ?_
              rotate_left
              · simp [Reads] at hw0
                go_simp
                try with_reducible rfl
              try go_simp
              clear hSw
              refine oneU (i := 6) rfl (by kernel_rfl) (fun K hK => ?_)
              go_simp
              refine hK _ _ (fun q hq _ _ => HRR.out _ (hkd.alloc _) q hq) ?_
              clear hK K
              try go_simp
              have hSw := HRR.out _ (hkd.alloc (.cells #[.int .i64 (l.length : Nat), .iface 58 (.int .i64 20)] 89))
              refine takeU (i := 7) (v := ?_) rfl (by kernel_rfl) (fun _ _ _ h => h) (Or.inl ⟨by rfl, fun w0 hw0 => ?_⟩) (fun p hp _ => hSw p hp) ?_
              rotate_left
              · simp [Reads] at hw0
                go_simp
                try with_reducible rfl
              try go_simp
              refine takeU (i := 9) (v := ?_) rfl (by kernel_rfl) (fun _ _ _ h => h) (Or.inl ⟨by rfl, fun w0 hw0 => ?_⟩) (fun p hp _ => hSw p hp) ?_
              rotate_left
              · simp [Reads] at hw0
                go_simp
                try with_reducible rfl
              try go_simp
              clear hSw
              refine doneU (by kernel_rfl) ?_
              go_wp2_with fail
              go_ret2
              exact ⟨(hk04.trans hkd).alloc _, .inr ⟨_, rfl, by simp, .inr (.inr (.inl ⟨_, _, rfl, Blk.fresh _ _ _⟩))⟩⟩
          · have ct := hT3.blk1
            have htl := hT3.lt
            have bP := built_PW (l.length : Nat) g
            go_upto_region 12 with (fail)
            have HR0 : (∀ W : World, Keeps [] w3 W → ∀ q ∈ [((3 : Nat), fun w0 : World => w0.cell? ⟨t, 1, none⟩ = some (.int .i64 (l.length : Nat)))], q.2 W) := fun W hW => rds1 (hW.cellSome ct (by simp))
            have hkd := (Keeps.refl [] w3).drew
            have hSw := HR0 _ hkd
            have HRR := Lib.hid HR0
            clear HR0
            refine startU [((3 : Nat), fun w0 : World => w0.cell? ⟨t, 1, none⟩ = some (.int .i64 (l.length : Nat)))] (by kernel_rfl) ?_
            generalize World.drew w3 = w6 at *
            refine takeU (i := 0) (v := ?_) rfl (by kernel_rfl) (fun _ _ _ h => h) (Or.inl ⟨by rfl, fun w0 hw0 => ?_⟩) (fun p hp _ => hSw p hp) ?_
            rotate_left
            · simp [Reads] at hw0
              go_simp
              try with_reducible rfl
            try go_simp
            refine takeU (i := 1) (v := ?_) rfl (by kernel_rfl) (fun _ _ _ h => h) (Or.inl ⟨by rfl, fun w0 hw0 => ?_⟩) (fun p hp _ => hSw p hp) ?_
            rotate_left
            · simp [Reads] at hw0
              go_simp
              try with_reducible rfl
            try go_simp
            refine takeU (i := 2) (v := ?_) rfl (by kernel_rfl) (fun _ _ _ h => h) (Or.inl ⟨by rfl, fun w0 hw0 => ?_⟩) (fun p hp _ => hSw p hp) ?_
            rotate_left
            · simp [Reads] at hw0
              go_simp
              try with_reducible rfl
            try go_simp
            refine takeU (i := 3) (v := ?_) rfl (by kernel_rfl) (fun _ _ _ h => h) (Or.inl ⟨by rfl, fun w0 hw0 => ?_⟩) (fun p hp _ => hSw p hp) ?_
            rotate_left
            · simp [Reads] at hw0
              go_simp
              try with_reducible rfl
            try go_simp
            refine takeU (i := 4) (v := ?_) rfl (by kernel_rfl) (fun _ _ _ h => h) (Or.inl ⟨by rfl, fun w0 hw0 => ?_⟩) (fun p hp _ => hSw p hp) ?_
            rotate_left
            · simp [Reads] at hw0
              go_simp
              try with_reducible rfl
            try go_simp
            refine takeU (i := 5) (v := ?_) rfl (by kernel_rfl) (fun _ _ _ h => h) (Or.inl ⟨by rfl, fun w0 hw0 => ?_⟩) (fun p hp _ => hSw p hp) ?_
            rotate_left
            · simp [Reads] at hw0
              go_simp
              try with_reducible rfl
            try go_simp
            refine takeU (i := 8) (v := ?_) rfl (by kernel_rfl) (fun _ _ _ h => h) (Or.inl ⟨by rfl, fun w0 hw0 => ?_⟩) (fun p hp _ => hSw p hp) ?_
            rotate_left
            · simp [Reads] at hw0
              go_simp
              try with_reducible rfl
            try go_simp
            clear hSw
            refine oneU (i := 6) rfl (by kernel_rfl) (fun K hK => ?_)
            go_simp
            refine hK _ _ (fun q hq _ _ => HRR.out _ (hkd.alloc _) q hq) ?_
            clear hK K
            try go_simp
            have hSw := HRR.out _ (hkd.alloc (.cells #[.int .i64 (l.length : Nat), .iface 52 (.pointer (some ⟨g, 0, none⟩))] 89))
            refine takeU (i := 7) (v := ?_) rfl (by kernel_rfl) (fun _ _ _ h => h) (Or.inl ⟨by rfl, fun w0 hw0 => ?_⟩) (fun p hp _ => hSw p hp) ?_
            rotate_left
            · simp [Reads] at hw0
              go_simp
              try with_reducible rfl
            try go_simp
            refine takeU (i := 9) (v := ?_) rfl (by kernel_rfl) (fun _ _ _ h => h) (Or.inl ⟨by rfl, fun w0 hw0 => ?_⟩) (fun p hp _ => hSw p hp) ?_
            rotate_left
            · simp [Reads] at hw0
              go_simp
              try with_reducible rfl
            try go_simp
            clear hSw
            refine doneU (by kernel_rfl) ?_
            go_wp2_with fail
            go_ret2
            exact ⟨(hk03.trans hkd).alloc _, .inr ⟨_, rfl, by simp, .inr (.inl ⟨_, _, g, rfl, Blk.fresh _ _ _, (hgw.keep0 hkd).keep0 ((Keeps.refl [] _).alloc _)⟩)⟩⟩
    · go_wp2_with fail
      go_loopw [0, 8, 9] (fun bv lv iv wr => ∃ (l : List KV) (rest : Bs) (ab : Option Addr) (cb : Nat) (la : Option Addr) (lc : Nat), bv = .slice ab rest.length cb ∧ lv = .slice la (lastK l).length lc ∧ iv = .int .u64 (l.length : Nat) ∧ l.length ≤ n ∧ b = uvarint n ++ (l.map enc).flatten ++ rest ∧ (∀ W, Rb W (some ⟨bb, o, none⟩) c b → Rb W ab cb rest ∧ Rb W la lc (lastK l)) ∧ TreeAt wr (fun x => x ≠ t) t l ∧ Keeps [] w wr) (fun _ _ iv _ => n - (intOf iv).toNat)
      case atStart => exact ⟨[], rs, some ⟨bb, o + s, none⟩, c - s, none, 0, by first | (rw [← HRL.out]; done) | (rw [← HRL.out]; simp [hcs]), rfl, rfl, Nat.zero_le _, by simpa using HRS.out.2, fun W hW => ⟨by have := HRS.out.1 W hW; rw [HA2.out, if_neg hcs] at this; exact this, Sl.none W 1⟩, HS.out.1, HS.out.2⟩
      case round =>
        clear HS s1 s2 s3
        obtain ⟨l, rest, ab, cb, la, lc, rfl, rfl, rfl, hln, hbe, hRW, hT, hkr⟩ := hrel
        obtain ⟨hRr, hRl⟩ := hRW _ (h.keep0 hkr)
        have hll := flat_len l
        have hbl : l.length + rest.length ≤ 1000000 := by
          have := congrArg List.length hbe
          simp only [List.length_append] at this
          omega
        have hsr := hT.srt
        have HBE := Lib.hid hbe
        have HRW := Lib.hid hRW
        clear hbe hRW hll
        rcases (by omega : l.length = n ∨ l.length < n) with hie | hil
        · have n2 : ¬ ((l.length : Int) < (n : Int)) := by omega
          have HIE := Lib.hid hie
          clear hie
          by_cases hr0 : rest = []
          · subst hr0
            go_wp2_with fail
            go_ret2
            refine ⟨hkr, .inl ⟨t, l, _, rfl, hT, ?_⟩⟩
            rw [HBE.out, List.append_nil, ← HIE.out]
            rfl
          · have n3 : (0 : Int) < (rest.length : Int) := by have := List.length_pos_iff.2 hr0; omega
            clear hr0
            go_wp2_with fail
            go_ret2
            exact ⟨hkr, .inr ⟨_, rfl, by simp, .inr (.inr (.inr rfl))⟩⟩
        · have n2 : (l.length : Int) < (n : Int) := by omega
          have q1 : IntKind.u64.wrap ((l.length : Int) + 1) = (l.length : Int) + 1 := IntWalk.u64_in _ (by omega)
          go_wp2_with fail
          refine (text_any ab cb rest _ hRr (by omega)).mono ?_
          rintro e w3 ⟨hk3, hres⟩
          have hk03 := hkr.trans hk3
          have hT3 := hT.keep0 hk3
          rcases hres with ⟨x, r, a1, a2, c2, rfl, hrx, hW1⟩ | ⟨g, rfl, hgw⟩
          · have hlx : x.length + r.length ≤ rest.length := by
              have h1 := congrArg List.length hrx
              have h2 := tx_len x
              simp only [List.length_append] at h1
              omega
            have HRX := Lib.hid hrx
            have HW1 := Lib.hid hW1
            clear hrx hW1 hT hRr
            go_wp2_with fail
            refine (text_any a2 c2 r _ (HW1.out _ (HRW.out _ (h.keep0 hk03)).1).2 (by omega)).mono ?_
            rintro e w4 ⟨hk4, hres2⟩
            have hk04 := hk03.trans hk4
            have hT4 := hT3.keep0 hk4
            have ct := hT4.blk1
            have htl := hT4.lt
            obtain ⟨hR4, hL4⟩ := HRW.out _ (h.keep0 hk04)
            have hx4 := (HW1.out _ hR4).1
            have hr4 := (HW1.out _ hR4).2
            have bP := built_PC (l.length : Nat) 20
            rcases hres2 with ⟨y, r2, a3, a4, c4, rfl, hry, hW2⟩ | ⟨g, rfl, hgw⟩
            · have hly : y.length + r2.length ≤ r.length := by
                have h1 := congrArg List.length hry
                have h2 := tx_len y
                simp only [List.length_append] at h1
                omega
              have HRY := Lib.hid hry
              have HW2 := Lib.hid hW2
              have hy4 := (hW2 _ hr4).1
              clear hry hW2 hT3
              by_cases hl0 : l = []
              · have HL0 := Lib.hid (show l = [] ∨ ltB (lastK l) x = true from .inl hl0)
                have n5 : ¬ ((0 : Int) < (l.length : Int)) := by subst hl0; simp
                clear hl0
                go_wp2_with fail
                refine (tput (k := x) (v := y) hT4 hx4 hy4 (by omega) (by omega) (by omega)).mono ?_
                rintro e w6 ⟨rfl, hT6, hk6⟩
                have hT7 : TreeAt w6 (fun x => x ≠ t) t (l ++ [(x, y)]) := by
                  have := hT6.mono (F' := fun x => x ≠ t) (fun z hz _ => by
                    rcases hz with hz | hz
                    · exact hz
                    · omega) (fun h => h rfl)
                  rwa [ins_end (below_last hsr HL0.out)] at this
                go_wp2_with fail
                go_roundw
                case rel =>
                  refine ⟨l ++ [(x, y)], r2, a4, c4, a1, x.length, by simp, by rw [lastK_snoc], by simp, by simp; omega, ?_, fun W hW => ⟨(HW2.out W (HW1.out W (HRW.out W hW).1).2).2, by rw [lastK_snoc]; exact (HW1.out W (HRW.out W hW).1).1⟩, hT7, hk04.step hk6 (fun z hz => .inr (by simp at hz; omega))⟩
                  rw [HBE.out, HRX.out, HRY.out]
                  simp [enc]
                case measure => simp [intOf]; omega
              · have n5 : (0 : Int) < (l.length : Int) := by have := List.length_pos_iff.2 hl0; omega
                have HLN := Lib.hid hl0
                clear hl0
                go_wp2_with fail
                refine (bcompare hL4 hx4).mono ?_
                rintro e w5 ⟨rfl, hw⟩
                obtain rfl := hw.symm
                rcases cmpL_range (lastK l) x with hc | hc | hc
                · have HL0 := Lib.hid (show l = [] ∨ ltB (lastK l) x = true from .inr (ltB_iff.2 hc))
                  rw [hc]
                  clear hc
                  go_wp2_with fail
                  refine (tput (k := x) (v := y) hT4 hx4 hy4 (by omega) (by omega) (by omega)).mono ?_
                  rintro e w6 ⟨rfl, hT6, hk6⟩
                  have hT7 : TreeAt w6 (fun x => x ≠ t) t (l ++ [(x, y)]) := by
                    have := hT6.mono (F' := fun x => x ≠ t) (fun z hz _ => by
                      rcases hz with hz | hz
                      · exact hz
                      · omega) (fun h => h rfl)
                    rwa [ins_end (below_last hsr HL0.out)] at this
                  go_wp2_with fail
                  go_roundw
                  case rel =>
                    refine ⟨l ++ [(x, y)], r2, a4, c4, a1, x.length, by simp, by rw [lastK_snoc], by simp, by simp; omega, ?_, fun W hW => ⟨(HW2.out W (HW1.out W (HRW.out W hW).1).2).2, by rw [lastK_snoc]; exact (HW1.out W (HRW.out W hW).1).1⟩, hT7, hk04.step hk6 (fun z hz => .inr (by simp at hz; omega))⟩
                    rw [HBE.out, HRX.out, HRY.out]
                    simp [enc]
                  case measure => simp [intOf]; omega
                · rw [hc]
                  clear hc
                  go_upto_region 15 with (fail)
                  have HR0 : (∀ W : World, Keeps [] w4 W → ∀ q ∈ [((3 : Nat), fun w0 : World => w0.cell? ⟨t, 1, none⟩ = some (.int .i64 (l.length : Nat)))], q.2 W) := fun W hW => rds1 (hW.cellSome ct (by simp))
                  have hkd := (Keeps.refl [] w4).drew
                  have hSw := HR0 _ hkd
                  have HRR := Lib.hid HR0
                  clear HR0
                  refine startU [((3 : Nat), fun w0 : World => w0.cell? ⟨t, 1, none⟩ = some (.int .i64 (l.length : Nat)))] (by kernel_rfl) ?_
                  generalize World.drew w4 = w6 at *
                  refine takeU (i := 0) (v := ?_) rfl (by kernel_rfl) (fun _ _ _ h => h) (Or.inl ⟨by rfl, fun w0 hw0 => ?_⟩) (fun p hp _ => hSw p hp) ?_
                  rotate_left
                  · simp [Reads] at hw0
                    go_simp
                    try with_reducible rfl
                  try go_simp
                  refine takeU (i := 1) (v := ?_) rfl (by kernel_rfl) (fun _ _ _ h => h) (Or.inl ⟨by rfl, fun w0 hw0 => ?_⟩) (fun p hp _ => hSw p hp) ?_
                  rotate_left
                  · simp [Reads] at hw0
                    go_simp
                    try with_reducible rfl
                  try go_simp
                  refine takeU (i := 2) (v := ?_) rfl (by kernel_rfl) (fun _ _ _ h => h) (Or.inl ⟨by rfl, fun w0 hw0 => ?_⟩) (fun p hp _ => hSw p hp) ?_
                  rotate_left
                  · simp [Reads] at hw0
                    go_simp
                    try with_reducible rfl
                  try go_simp
                  refine takeU (i := 3) (v := ?_) rfl (by kernel_rfl) (fun _ _ _ h => h) (Or.inl ⟨by rfl, fun w0 hw0 => ?_⟩) (fun p hp _ => hSw p hp) ?_
                  rotate_left
                  · simp [Reads] at hw0
                    go_simp
                    try with_reducible rfl
                  try go_simp
                  refine takeU (i := 4) (v := ?_) rfl (by kernel_rfl) (fun _ _ _ h => h) (Or.inl ⟨by rfl, fun w0 hw0 => ?_⟩) (fun p hp _ => hSw p hp) ?_
                  rotate_left
                  · simp [Reads] at hw0
                    go_simp
                    try with_reducible rfl
                  try go_simp
                  refine takeU (i := 5) (v := ?_) rfl (by kernel_rfl) (fun _ _ _ h => h) (Or.inl ⟨by rfl, fun w0 hw0 => ?_⟩) (fun p hp _ => hSw p hp) ?_
                  rotate_left
                  · simp [Reads] at hw0
                    go_simp
                    try with_reducible rfl
                  try go_simp
                  refine takeU (i := 8) (v := ?_) rfl (by kernel_rfl) (fun _ _ _ h => h) (Or.inl ⟨by rfl, fun w0 hw0 => ?_⟩) (fun p hp _ => hSw p hp) ?_
                  rotate_left
                  · simp [Reads] at hw0
                    go_simp
                    try with_reducible rfl
                  try go_simp
                  clear hSw
                  refine oneU (i := 6) rfl (by kernel_rfl) (fun K hK => ?_)
                  go_simp
                  refine hK _ _ (fun q hq _ _ => HRR.out _ (hkd.alloc _) q hq) ?_
                  clear hK K
                  try go_simp
                  have hSw := HRR.out _ (hkd.alloc (.cells #[.int .i64 (l.length : Nat), .iface 58 (.int .i64 20)] 89))
                  refine takeU (i := 7) (v := ?_) rfl (by kernel_rfl) (fun _ _ _ h => h) (Or.inl ⟨by rfl, fun w0 hw0 => ?_⟩) (fun p hp _ => hSw p hp) ?_
                  rotate_left
                  · simp [Reads] at hw0
                    go_simp
                    try with_reducible rfl
                  try go_simp
                  refine takeU (i := 9) (v := ?_) rfl (by kernel_rfl) (fun _ _ _ h => h) (Or.inl ⟨by rfl, fun w0 hw0 => ?_⟩) (fun p hp _ => hSw p hp) ?_
                  rotate_left
                  · simp [Reads] at hw0
                    go_simp
                    try with_reducible rfl
                  try go_simp
                  clear hSw
                  refine doneU (by kernel_rfl) ?_
                  go_wp2_with fail
                  go_ret2
                  exact ⟨(hk04.trans hkd).alloc _, .inr ⟨_, rfl, by simp, .inr (.inr (.inl ⟨_, _, rfl, Blk.fresh _ _ _⟩))⟩⟩
                · rw [hc]
                  clear hc
                  go_upto_region 15 with (fail)
                  have HR0 : (∀ W : World, Keeps [] w4 W → ∀ q ∈ [((3 : Nat), fun w0 : World => w0.cell? ⟨t, 1, none⟩ = some (.int .i64 (l.length : Nat)))], q.2 W) := fun W hW => rds1 (hW.cellSome ct (by simp))
                  have hkd := (Keeps.refl [] w4).drew
                  have hSw := HR0 _ hkd
                  have HRR := Lib.hid HR0
                  clear HR0
                  refine startU [((3 : Nat), fun w0 : World => w0.cell? ⟨t, 1, none⟩ = some (.int .i64 (l.length : Nat)))] (by kernel_rfl) ?_
                  generalize World.drew w4 = w6 at *
                  refine takeU (i := 0) (v := ?_) rfl (by kernel_rfl) (fun _ _ _ h => h) (Or.inl ⟨by rfl, fun w0 hw0 => ?_⟩) (fun p hp _ => hSw p hp) ?_
                  rotate_left
                  · simp [Reads] at hw0
                    go_simp
                    try with_reducible rfl
                  try go_simp
                  refine takeU (i := 1) (v := ?_) rfl (by kernel_rfl) (fun _ _ _ h => h) (Or.inl ⟨by rfl, fun w0 hw0 => ?_⟩) (fun p hp _ => hSw p hp) ?_
                  rotate_left
                  · simp [Reads] at hw0
                    go_simp
                    try with_reducible rfl
                  try go_simp
                  refine takeU (i := 2) (v := ?_) rfl (by kernel_rfl) (fun _ _ _ h => h) (Or.inl ⟨by rfl, fun w0 hw0 => ?_⟩) (fun p hp _ => hSw p hp) ?_
                  rotate_left
                  · simp [Reads] at hw0
                    go_simp
                    try with_reducible rfl
                  try go_simp
                  refine takeU (i := 3) (v := ?_) rfl (by kernel_rfl) (fun _ _ _ h => h) (Or.inl ⟨by rfl, fun w0 hw0 => ?_⟩) (fun p hp _ => hSw p hp) ?_
                  rotate_left
                  · simp [Reads] at hw0
                    go_simp
                    try with_reducible rfl
                  try go_simp
                  refine takeU (i := 4) (v := ?_) rfl (by kernel_rfl) (fun _ _ _ h => h) (Or.inl ⟨by rfl, fun w0 hw0 => ?_⟩) (fun p hp _ => hSw p hp) ?_
                  rotate_left
                  · simp [Reads] at hw0
                    go_simp
                    try with_reducible rfl
                  try go_simp
                  refine takeU (i := 5) (v := ?_) rfl (by kernel_rfl) (fun _ _ _ h => h) (Or.inl ⟨by rfl, fun w0 hw0 => ?_⟩) (fun p hp _ => hSw p hp) ?_
                  rotate_left
                  · simp [Reads] at hw0
                    go_simp
                    try with_reducible rfl
                  try go_simp
                  refine takeU (i := 8) (v := ?_) rfl (by kernel_rfl) (fun _ _ _ h => h) (Or.inl ⟨by rfl, fun w0 hw0 => ?_⟩) (fun p hp _ => hSw p hp) ?_
                  rotate_left
                  · simp [Reads] at hw0
                    go_simp
                    try with_reducible rfl
                  try go_simp
                  clear hSw
                  refine oneU (i := 6) rfl (by kernel_rfl) (fun K hK => ?_)
                  go_simp
                  refine hK _ _ (fun q hq _ _ => HRR.out _ (hkd.alloc _) q hq) ?_
                  clear hK K
                  try go_simp
                  have hSw := HRR.out _ (hkd.alloc (.cells #[.int .i64 (l.length : Nat), .iface 58 (.int .i64 20)] 89))
                  refine takeU (i := 7) (v := ?_) rfl (by kernel_rfl) (fun _ _ _ h => h) (Or.inl ⟨by rfl, fun w0 hw0 => ?_⟩) (fun p hp _ => hSw p hp) ?_
                  rotate_left
                  · simp [Reads] at hw0
                    go_simp
                    try with_reducible rfl
                  try go_simp
                  refine takeU (i := 9) (v := ?_) rfl (by kernel_rfl) (fun _ _ _ h => h) (Or.inl ⟨by rfl, fun w0 hw0 => ?_⟩) (fun p hp _ => hSw p hp) ?_
                  rotate_left
                  · simp [Reads] at hw0
                    go_simp
                    try with_reducible rfl
                  try go_simp
                  clear hSw
                  refine doneU (by kernel_rfl) ?_
                  go_wp2_with fail
                  go_ret2
                  exact ⟨(hk04.trans hkd).alloc _, .inr ⟨_, rfl, by simp, .inr (.inr (.inl ⟨_, _, rfl, Blk.fresh _ _ _⟩))⟩⟩
            · clear hT3
              go_upto_region 15 with (fail)
              have HR0 : (∀ W : World, Keeps [] w4 W → ∀ q ∈ [((3 : Nat), fun w0 : World => w0.cell? ⟨t, 1, none⟩ = some (.int .i64 (l.length : Nat)))], q.2 W) := fun W hW => rds1 (hW.cellSome ct (by simp))
              have hkd := (Keeps.refl [] w4).drew
              have hSw := HR0 _ hkd
              have HRR := Lib.hid HR0
              clear HR0
              refine startU [((3 : Nat), fun w0 : World => w0.cell? ⟨t, 1, none⟩ = some (.int .i64 (l.length : Nat)))] (by kernel_rfl) ?_
              generalize World.drew w4 = w6 at *
              refine takeU (i := 0) (v := ?_) rfl (by kernel_rfl) (fun _ _ _ h => h) (Or.inl ⟨by rfl, fun w0 hw0 => ?_⟩) (fun p hp _ => hSw p hp) ?_
              rotate_left
              · simp [Reads] at hw0
                go_simp
                try with_reducible rfl
              try go_simp
              refine takeU (i := 1) (v := ?_) rfl (by kernel_rfl) (fun _ _ _ h => h) (Or.inl ⟨by rfl, fun w0 hw0 => ?_⟩) (fun p hp _ => hSw p hp) ?_
              rotate_left
              · simp [Reads] at hw0
                go_simp
                try with_reducible rfl
              try go_simp
              refine takeU (i := 2) (v := ?_) rfl (by kernel_rfl) (fun _ _ _ h => h) (Or.inl ⟨by rfl, fun w0 hw0 => ?_⟩) (fun p hp _ => hSw p hp) ?_
              rotate_left
              · simp [Reads] at hw0
                go_simp
                try with_reducible rfl
              try go_simp
              refine takeU (i := 3) (v := ?_) rfl (by kernel_rfl) (fun _ _ _ h => h) (Or.inl ⟨by rfl, fun w0 hw0 => ?_⟩) (fun p hp _ => hSw p hp) ?_
              rotate_left
              · simp [Reads] at hw0
                go_simp
                try with_reducible rfl
              try go_simp
              refine takeU (i := 4) (v := ?_) rfl (by kernel_rfl) (fun _ _ _ h => h) (Or.inl ⟨by rfl, fun w0 hw0 => ?_⟩) (fun p hp _ => hSw p hp) ?_
              rotate_left
              · simp [Reads] at hw0
                go_simp
                try with_reducible rfl
              try go_simp
              refine takeU (i := 5) (v := ?_) rfl (by kernel_rfl) (fun _ _ _ h => h) (Or.inl ⟨by rfl, fun w0 hw0 => ?_⟩) (fun p hp _ => hSw p hp) ?_
              rotate_left
              · simp [Reads] at hw0
                go_simp
                try with_reducible rfl
              try go_simp
              refine takeU (i := 8) (v := ?_) rfl (by kernel_rfl) (fun _ _ _ h => h) (Or.inl ⟨by rfl, fun w0 hw0 => ?_⟩) (fun p hp _ => hSw p hp) ?_
              rotate_left
              · simp [Reads] at hw0
                go_simp
                try with_reducible rfl
              try go_simp
              clear hSw
              refine oneU (i := 6) rfl (by kernel_rfl) (fun K hK => ?_)
              go_simp
              refine hK _ _ (fun q hq _ _ => HRR.out _ (hkd.alloc _) q hq) ?_
              clear hK K
              try go_simp
              have hSw := HRR.out _ (hkd.alloc (.cells #[.int .i64 (l.length : Nat), .iface 58 (.int .i64 20)] 89))
              refine takeU (i := 7) (v := ?_) rfl (by kernel_rfl) (fun _ _ _ h => h) (Or.inl ⟨by rfl, fun w0 hw0 => ?_⟩) (fun p hp _ => hSw p hp) ?_
              rotate_left
              · simp [Reads] at hw0
                go_simp
                try with_reducible rfl
              try go_simp
              refine takeU (i := 9) (v := ?_) rfl (by kernel_rfl) (fun _ _ _ h => h) (Or.inl ⟨by rfl, fun w0 hw0 => ?_⟩) (fun p hp _ => hSw p hp) ?_
              rotate_left
              · simp [Reads] at hw0
                go_simp
                try with_reducible rfl
              try go_simp
              clear hSw
              refine doneU (by kernel_rfl) ?_
              go_wp2_with fail
              go_ret2
              exact ⟨(hk04.trans hkd).alloc _, .inr ⟨_, rfl, by simp, .inr (.inr (.inl ⟨_, _, rfl, Blk.fresh _ _ _⟩))⟩⟩
          · have ct := hT3.blk1
            have htl := hT3.lt
            have bP := built_PW (l.length : Nat) g
            go_upto_region 12 with (fail)
            have HR0 : (∀ W : World, Keeps [] w3 W → ∀ q ∈ [((3 : Nat), fun w0 : World => w0.cell? ⟨t, 1, none⟩ = some (.int .i64 (l.length : Nat)))], q.2 W) := fun W hW => rds1 (hW.cellSome ct (by simp))
            have hkd := (Keeps.refl [] w3).drew
            have hSw := HR0 _ hkd
            have HRR := Lib.hid HR0
            clear HR0
            refine startU [((3 : Nat), fun w0 : World => w0.cell? ⟨t, 1, none⟩ = some (.int .i64 (l.length : Nat)))] (by kernel_rfl) ?_
            generalize World.drew w3 = w6 at *
            refine takeU (i := 0) (v := ?_) rfl (by kernel_rfl) (fun _ _ _ h => h) (Or.inl ⟨by rfl, fun w0 hw0 => ?_⟩) (fun p hp _ => hSw p hp) ?_
            rotate_left
            · simp [Reads] at hw0
              go_simp
              try with_reducible rfl
            try go_simp
            refine takeU (i := 1) (v := ?_) rfl (by kernel_rfl) (fun _ _ _ h => h) (Or.inl ⟨by rfl, fun w0 hw0 => ?_⟩) (fun p hp _ => hSw p hp) ?_
            rotate_left
            · simp [Reads] at hw0
              go_simp
              try with_reducible rfl
            try go_simp
            refine takeU (i := 2) (v := ?_) rfl (by kernel_rfl) (fun _ _ _ h => h) (Or.inl ⟨by rfl, fun w0 hw0 => ?_⟩) (fun p hp _ => hSw p hp) ?_
            rotate_left
            · simp [Reads] at hw0
              go_simp
              try with_reducible rfl
            try go_simp
            refine takeU (i := 3) (v := ?_) rfl (by kernel_rfl) (fun _ _ _ h => h) (Or.inl ⟨by rfl, fun w0 hw0 => ?_⟩) (fun p hp _ => hSw p hp) ?_
            rotate_left
            · simp [Reads] at hw0
              go_simp
              try with_reducible rfl
            try go_simp
            refine takeU (i := 4) (v := ?_) rfl (by kernel_rfl) (fun _ _ _ h => h) (Or.inl ⟨by rfl, fun w0 hw0 => ?_⟩) (fun p hp _ => hSw p hp) ?_
            rotate_left
            · simp [Reads] at hw0
              go_simp
              try with_reducible rfl
            try go_simp
            refine takeU (i := 5) (v := ?_) rfl (by kernel_rfl) (fun _ _ _ h => h) (Or.inl ⟨by rfl, fun w0 hw0 => ?_⟩) (fun p hp _ => hSw p hp) ?_
            rotate_left
            · simp [Reads] at hw0
              go_simp
              try with_reducible rfl
            try go_simp
            refine takeU (i := 8) (v := ?_) rfl (by kernel_rfl) (fun _ _ _ h => h) (Or.inl ⟨by rfl, fun w0 hw0 => ?_⟩) (fun p hp _ => hSw p hp) ?_
            rotate_left
            · simp [Reads] at hw0
              go_simp
              try with_reducible rfl
            try go_simp
            clear hSw
            refine oneU (i := 6) rfl (by kernel_rfl) (fun K hK => ?_)
            go_simp
            refine hK _ _ (fun q hq _ _ => HRR.out _ (hkd.alloc _) q hq) ?_
            clear hK K
            try go_simp
            have hSw := HRR.out _ (hkd.alloc (.cells #[.int .i64 (l.length : Nat), .iface 52 (.pointer (some ⟨g, 0, none⟩))] 89))
            refine takeU (i := 7) (v := ?_) rfl (by kernel_rfl) (fun _ _ _ h => h) (Or.inl ⟨by rfl, fun w0 hw0 => ?_⟩) (fun p hp _ => hSw p hp) ?_
            rotate_left
            · simp [Reads] at hw0
              go_simp
              try with_reducible rfl
            try go_simp
            refine takeU (i := 9) (v := ?_) rfl (by kernel_rfl) (fun _ _ _ h => h) (Or.inl ⟨by rfl, fun w0 hw0 => ?_⟩) (fun p hp _ => hSw p hp) ?_
            rotate_left
            · simp [Reads] at hw0
              go_simp
              try with_reducible rfl
            try go_simp
            clear hSw
            refine doneU (by kernel_rfl) ?_
            go_wp2_with fail
            go_ret2
            exact ⟨(hk03.trans hkd).alloc _, .inr ⟨_, rfl, by simp, .inr (.inl ⟨_, _, g, rfl, Blk.fresh _ _ _, (hgw.keep0 hkd).keep0 ((Keeps.refl [] _).alloc _)⟩)⟩⟩
  · obtain ⟨g, p, rfl, hB⟩ : ∃ g p, ev = .iface 52 (.pointer (some ⟨g, 0, none⟩)) ∧ Blk w1 g 56 #[.string p, .iface 58 (.int .i64 er)] := by
      rcases hE with ⟨rfl, hx⟩ | hE
      · omega
      · exact hE
    go_wp2_with fail
    go_ret2
    exact ⟨hk1.alloc _, .inr ⟨_, rfl, by simp, .inl ⟨_, rfl, _, _, Blk.fresh _ _ _⟩⟩⟩
end Go.Proofs.YthibgaagfdgmmaaDoor
/- Load; TreeLoads: the walk. -/

namespace Go.Proofs.YthibgaagfdgmmaaDoor
open Go.RowKit Go.Lib

/-- what Load hands back -/
def LoadP (b : Bs) (w : World) (e : Ending) (w' : World) : Prop :=
  Keeps [] w w' ∧ ((∃ t l F, e = .returned (.tuple #[.pointer (some ⟨t, 0, none⟩), .nilIface]) ∧ TreeAt w' F t l ∧ b = dumpB uvarint l) ∨
    (∃ g p, e = .returned (.tuple #[.pointer none, .iface 52 (.pointer (some ⟨g, 0, none⟩))]) ∧ Blk w' g 56 #[.string p, .iface 58 (.int .i64 20)]))

set_option maxRecDepth 100000 in
set_option maxHeartbeats 8000000 in
theorem loadP_any (ao : Option Addr) (c : Nat) (b : Bs) (w : World) (hg : (w).cell? ⟨0, 0, none⟩ = some (.iface 119 (.agg #[.pointer (some ⟨2, 26, none⟩)]))) (h : Rb w ao c b) (hl : b.length ≤ 1000000) :
    Calls Tryd.prog 6 #[.slice ao b.length c] w fun e w' => LoadP b w e w' := by
  have HL := load_any ao c b w h hl
  go_enter Tryd.func6, Tryd.ntmps6
  go_wp2_with fail
  refine HL.mono ?_
  rintro e w1 ⟨hk1, hres⟩
  clear HL
  have hg1 : (w1).cell? ⟨0, 0, none⟩ = some (.iface 119 (.agg #[.pointer (some ⟨2, 26, none⟩)])) := hk1.cellSome hg (by simp)
  have hg0 : 0 < w1.heap.size := block_lt_of_cell hg1
  rcases hres with ⟨t, l, F, rfl, hT, hd⟩ | ⟨ev, rfl, hne, hE⟩
  · have HD := Lib.hid hd
    clear hd
    go_wp2_with fail
    go_ret2
    exact ⟨hk1, .inl ⟨t, l, F, rfl, hT, HD.out⟩⟩
  · rcases hE with ⟨g, rfl, p, v, hB⟩ | ⟨q, a, g, rfl, hQ, p, v, hB⟩ | ⟨q, a, rfl, hQ⟩ | rfl
    · have ka := (Keeps.refl [] w1).alloc (.cells #[.pointer none] 52)
      have hX := Blk.fresh w1 52 #[.pointer none]
      have hs1 := hk1.size
      have hB2 := hB.keep ka (by simp)
      have hk02 := hk1.trans ka
      go_upto_region 6 with (fail)
      have hg2 : ((w1.alloc (.cells #[.pointer none] 52))).cell? ⟨0, 0, none⟩ = some (.iface 119 (.agg #[.pointer (some ⟨2, 26, none⟩)])) := ka.cellSome hg1 (by simp)
      have hgx : g ≠ w1.heap.size := by have := hB.lt; omega
      generalize World.alloc w1 _ = w2 at *
      generalize w1.heap.size = xb at *
      go_wp2_with fail
      refine (asW_within g xb (.pointer none) w2 hg2 hB2.lt (hX.cell 0) (hX.free 0)).mono ?_
      rintro e w3 ⟨rfl, hk3, hc3⟩
      have hB3 := hB2.keep hk3 (by simpa using hgx)
      have c0 : w3.cell? ⟨g, 0, none⟩ = some (.string p) := hB3.cell 0
      have hgl3 := hB3.lt
      have hxl3 := block_lt_of_cell hc3
      have hk03 : Keeps [] w w3 := hk02.step hk3 (fun x hx => .inr (by simp at hx; omega))
      go_wp2_with fail
      go_ret2
      exact ⟨hk03.alloc _, .inr ⟨_, p, rfl, Blk.fresh _ _ _⟩⟩
    · have ka := (Keeps.refl [] w1).alloc (.cells #[.pointer none] 52)
      have hX := Blk.fresh w1 52 #[.pointer none]
      have hs1 := hk1.size
      have hB2 := hB.keep ka (by simp)
      have hQ2 := hQ.keep ka (by simp)
      have hk02 := hk1.trans ka
      go_upto_region 6 with (fail)
      have hg2 : ((w1.alloc (.cells #[.pointer none] 52))).cell? ⟨0, 0, none⟩ = some (.iface 119 (.agg #[.pointer (some ⟨2, 26, none⟩)])) := ka.cellSome hg1 (by simp)
      have hgx : g ≠ w1.heap.size := by have := hB.lt; omega
      generalize World.alloc w1 _ = w2 at *
      generalize w1.heap.size = xb at *
      go_wp2_with fail
      refine (asW_placed q g xb (.pointer none) w2 hg2 (hQ2.cell 1) hB2.lt (hX.cell 0) (hX.free 0)).mono ?_
      rintro e w3 ⟨rfl, hk3, hc3⟩
      have hB3 := hB2.keep hk3 (by simpa using hgx)
      have c0 : w3.cell? ⟨g, 0, none⟩ = some (.string p) := hB3.cell 0
      have hgl3 := hB3.lt
      have hxl3 := block_lt_of_cell hc3
      have hk03 : Keeps [] w w3 := hk02.step hk3 (fun x hx => .inr (by simp at hx; omega))
      go_wp2_with fail
      go_ret2
      exact ⟨hk03.alloc _, .inr ⟨_, p, rfl, Blk.fresh _ _ _⟩⟩
    · have ka := (Keeps.refl [] w1).alloc (.cells #[.pointer none] 52)
      have hX := Blk.fresh w1 52 #[.pointer none]
      have hs1 := hk1.size
      have hQ2 := hQ.keep ka (by simp)
      have hk02 := hk1.trans ka
      go_upto_region 6 with (fail)
      have hg2 : ((w1.alloc (.cells #[.pointer none] 52))).cell? ⟨0, 0, none⟩ = some (.iface 119 (.agg #[.pointer (some ⟨2, 26, none⟩)])) := ka.cellSome hg1 (by simp)
      have hgx : q ≠ w1.heap.size := by have := hQ.lt; omega
      generalize World.alloc w1 _ = w2 at *
      generalize w1.heap.size = xb at *
      go_wp2_with fail
      refine (asW_placedC q 20 xb (.pointer none) w2 hg2 (hQ2.cell 1) (hX.cell 0) (hX.free 0)).mono ?_
      rintro e w3 ⟨rfl, hk3⟩
      have hk03 : Keeps [] w w3 := hk02.step hk3 (fun x hx => .inr (by simp at hx; omega))
      go_wp2_with fail
      refine (isW_placedC q 20 w3 ((hQ2.keep hk3 (by simpa using hgx)).cell 1)).mono ?_
      rintro e w4 ⟨rfl, hw⟩
      obtain rfl := hw.symm
      go_wp2_with fail
      go_ret2
      exact ⟨hk03.alloc _, .inr ⟨_, _, rfl, Blk.fresh _ _ _⟩⟩
    · have ka := (Keeps.refl [] w1).alloc (.cells #[.pointer none] 52)
      have hX := Blk.fresh w1 52 #[.pointer none]
      have hs1 := hk1.size
      have hk02 := hk1.trans ka
      go_upto_region 6 with (fail)
      have hg2 : ((w1.alloc (.cells #[.pointer none] 52))).cell? ⟨0, 0, none⟩ = some (.iface 119 (.agg #[.pointer (some ⟨2, 26, none⟩)])) := ka.cellSome hg1 (by simp)
      generalize World.alloc w1 _ = w2 at *
      generalize w1.heap.size = xb at *
      go_wp2_with fail
      refine (asW_class 20 xb (.pointer none) w2 hg2 (hX.cell 0) (hX.free 0)).mono ?_
      rintro e w3 ⟨rfl, hk3⟩
      have hk03 : Keeps [] w w3 := hk02.step hk3 (fun x hx => .inr (by simp at hx; omega))
      go_wp2_with fail
      refine (isW_class 20 w3).mono ?_
      rintro e w4 ⟨rfl, hw⟩
      obtain rfl := hw.symm
      go_wp2_with fail
      go_ret2
      exact ⟨hk03.alloc _, .inr ⟨_, _, rfl, Blk.fresh _ _ _⟩⟩

set_option maxRecDepth 100000 in
set_option maxHeartbeats 4000000 in
theorem loads_any (ao : Option Addr) (c : Nat) (b : Bs) (w : World) (hg : (w).cell? ⟨0, 0, none⟩ = some (.iface 119 (.agg #[.pointer (some ⟨2, 26, none⟩)]))) (h : Rb w ao c b) :
    Calls Tryd.prog 3 #[.slice ao b.length c] w fun e w' => e = .returned (.bool true) ∧ Keeps [] w w' := by
  go_enter Tryd.func3, Tryd.ntmps3
  go_wp2_with fail
  refine (known_any w).mono ?_
  rintro e w1 ⟨rfl, hk1⟩
  by_cases h2 : 2000 < b.length
  · have n1 : (2000 : Int) < (b.length : Int) := by omega
    go_wp2_with fail
    go_ret
    exact ⟨rfl, hk1⟩
  have n1 : ¬ ((2000 : Int) < (b.length : Int)) := by omega
  have hg1 : (w1).cell? ⟨0, 0, none⟩ = some (.iface 119 (.agg #[.pointer (some ⟨2, 26, none⟩)])) := hk1.cellSome hg (by simp)
  go_wp2_with fail
  refine (loadP_any ao c b w1 hg1 (h.keep0 hk1) (by omega)).mono ?_
  rintro e w2 ⟨hk2, hres⟩
  have hk02 := hk1.trans hk2
  have hg2 : (w2).cell? ⟨0, 0, none⟩ = some (.iface 119 (.agg #[.pointer (some ⟨2, 26, none⟩)])) := hk02.cellSome hg (by simp)
  rcases hres with ⟨t, l, F, rfl, hT, hd⟩ | ⟨g, p, rfl, hB⟩
  · have HD := Lib.hid hd
    have hdl : (dumpB uvarint l).length ≤ 2000 := by rw [← hd]; omega
    clear hd
    go_wp2_with fail
    refine (tdump hT (by omega)).mono ?_
    rintro e w3 ⟨a1, c1, rfl, hD, hk3⟩
    go_wp2_with fail
    refine (bytes_any a1 ao c1 c _ b w3 hD.rb (h.keep0 (hk02.trans hk3))).mono ?_
    rintro e w4 ⟨rfl, hw⟩
    obtain rfl := hw.symm
    rw [← HD.out, beq_self_eq_true]
    go_wp2_with fail
    go_ret
    exact ⟨rfl, hk02.trans hk3⟩
  · go_wp2_with fail
    refine (class_any _ 20 w2 hg2 (.inr ⟨g, p, rfl, hB⟩)).mono ?_
    rintro e w3 ⟨rfl, hk3⟩
    go_wp2_with fail
    go_ret
    exact ⟨rfl, hk02.trans hk3⟩
end Go.Proofs.YthibgaagfdgmmaaDoor
/- Bytes that come in. -/
namespace Go.Proofs.YthibgaagfdgmmaaDoor
open Go.RowKit

theorem in_one_u8 : Tryd.prog.cellsOf 5 = 1 := by kernel_rfl
theorem flat_bys (l : List UInt8) : (l.map fun b => [Value.int .u8 (b.toNat : Nat)]).flatten = bys l := by
  induction l with
  | nil => rfl
  | cons x l ih =>
    rw [List.map_cons, List.flatten_cons, ih]
    rfl
section
variable {H : Type} {enc : TypeId × Value → H} {w : World}
theorem rb_in {a : Option Addr} {len cap : Nat} (h : Rd enc w 22 [.slice a len cap]) : ∃ l : List UInt8, l.length = len ∧ Rb w a cap l := by
  obtain ⟨l, hl, _, hS⟩ := sl_in h Tryd.underlying22 in_one_u8 (by omega) (0 : UInt8) (fun b => [Value.int .u8 (b.toNat : Nat)]) (fun _ => True) (fun _ => rfl)
    (by intro v u hu; simp at hu; subst hu; rfl) (fun cs hc => by
      obtain ⟨m, rfl, hm⟩ := hc.int Tryd.underlying5
      have hb := bounds_u8 hm
      have e : ((UInt8.ofNat m.toNat).toNat : Int) = m := by rw [UInt8.toNat_ofNat']; omega
      exact ⟨UInt8.ofNat m.toNat, by rw [e], trivial⟩)
  subst hl
  rw [flat_bys] at hS
  exact ⟨l, rfl, hS⟩
end
end Go.Proofs.YthibgaagfdgmmaaDoor
