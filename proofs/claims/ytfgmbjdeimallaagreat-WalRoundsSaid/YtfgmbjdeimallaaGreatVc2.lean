/- WalRounds: the walk. -/
import Derived.Test.YtfgmbjdeimallaaGreatWdZ

namespace Go.Proofs.YtfgmbjdeimallaaGreat
open Go.RowKit Go.Lib

/-- a round's entries -/
def rowE (q : ByteArray) (r k : Nat) : List Ent := (List.range k).map fun i => ⟨1, 1, i, r, q⟩
theorem rowE_succ (q : ByteArray) (r k : Nat) : rowE q r (k + 1) = rowE q r k ++ [(⟨1, 1, k, r, q⟩ : Ent)] := by simp [rowE, List.range_succ]
theorem rowE_len (q : ByteArray) (r k : Nat) : (rowE q r k).length = k := by simp [rowE]
theorem rowE_in {q : ByteArray} {r k : Nat} {x : Ent} (h : x ∈ rowE q r k) : ∃ i, i < k ∧ x = (⟨1, 1, i, r, q⟩ : Ent) := by
  obtain ⟨i, hi, rfl⟩ := List.mem_map.1 h
  exact ⟨i, by simpa using hi, rfl⟩
/-- entries with short texts -/
def Slim (l : List Ent) : Prop := ∀ x ∈ l, x.sql.size ≤ 255
theorem Slim.sum : ∀ {l : List Ent}, Slim l → entSum l ≤ 297 * l.length
  | [], _ => Nat.le_refl _
  | x :: l, h => by
    have ih := Slim.sum (l := l) (fun y hy => h y (.tail _ hy))
    have hx := h x (.head _)
    simp only [entSum, List.map_cons, List.sum_cons, List.length_cons] at ih ⊢
    omega
theorem Slim.append {a b : List Ent} (h : Slim a) (h' : Slim b) : Slim (a ++ b) := fun x hx => (List.mem_append.1 hx).elim (h x) (h' x)
theorem Slim.drop {a : List Ent} (h : Slim a) (k : Nat) : Slim (a.drop k) := fun x hx => h x (List.mem_of_mem_drop hx)
theorem rowE_slim {q : ByteArray} (hq : q.size ≤ 255) (r k : Nat) : Slim (rowE q r k) := fun x hx => by
  obtain ⟨i, _, rfl⟩ := rowE_in hx
  exact hq
theorem rowE_may {q : ByteArray} (hq : q.size ≤ 255) {r k : Nat} (hr : r < 1000) (hk : k ≤ 20) : ∀ x ∈ rowE q r k, x.May := fun x hx => by
  obtain ⟨i, hi, rfl⟩ := rowE_in hx
  refine ⟨?_, by simp, by simp only; omega, by simp only; omega⟩
  simp [entOk]
  omega
/-- what the wal tells ahead of round r -/
def rs (q : ByteArray) : Nat → Ws
  | 0 => Ws.nil
  | r + 1 => ⟨r, 1, 20 * r + 15, 1, (rowE q r 20).drop 15⟩
theorem rs_len (q : ByteArray) (r : Nat) : (rs q r).es.length ≤ 5 := by
  cases r with
  | zero => simp [rs]
  | succ r => simp [rs, rowE_len]
theorem rs_slim {q : ByteArray} (hq : q.size ≤ 255) (r : Nat) : Slim (rs q r).es := by
  cases r with
  | zero => intro x hx; simp [rs] at hx
  | succ r => exact (rowE_slim hq r 20).drop 15
theorem rs_base (q : ByteArray) (r : Nat) : (rs q r).base ≤ 20 * r + 15 := by
  cases r with
  | zero => simp [rs]
  | succ r => simp [rs]; omega
theorem rs_step (q : ByteArray) (r : Nat) : Ws.ev (Ws.ev { rs q r with es := (rs q r).es ++ rowE q r 20 } (.hard r 1)) (.drop (20 * r + 15) 1) = rs q (r + 1) := by
  cases r with
  | zero => simp [rs, Ws.ev]
  | succ r =>
    have h1 : ((rowE q r 20).drop 15).length = 5 := by simp [rowE_len]
    have h2 : 20 * (r + 1) + 15 - (20 * r + 15) = ((rowE q r 20).drop 15).length + 15 := by omega
    simp only [rs, Ws.ev]
    rw [h2, List.drop_append, List.drop_eq_nil_of_le (by omega), List.nil_append, Nat.add_sub_cancel_left]
theorem noneR {W : World} : ∀ p ∈ ([] : List (Nat × (World → Prop))), p.2 W := fun p hp => by cases hp

theorem re_ownL {w : World} {ao : Option Addr} {n c : Nat} {l : List Ent} (h : Sl w 5 ao n c (ents l)) (hn : n = l.length) : Re w ao c l := by subst hn; exact h

theorem run_hardT (u v : Value) (w0 : World) : Sem.run Tryz.prog (Instr.field 47 (.agg #[u, v]) 0) w0 = .ok u w0 := by kernel_rfl

/-- the wal ahead of round r -/
def RoundAt (w1 wr : World) (db r wb : Nat) (q : ByteArray) : Prop := ∃ L E d z may, Sure w1 wr wb db L E [] d (rs q r) z may (100 + 40 * r)

set_option maxRecDepth 100000 in
set_option maxHeartbeats 8000000 in
theorem wlrounds (rn sz : Nat) (w : World) (hrn : rn < 256) (hsz : sz < 256) :
    Calls Tryz.prog 4 #[.int .u8 (rn : Nat), .int .u8 (sz : Nat)] w fun e w' => e = .returned (.bool true) ∧ Keeps [] w w' := by
  obtain ⟨iE, zE, hiE, hzE, hsE, hbE, hcE⟩ := infoEn
  obtain ⟨R, hR⟩ : ∃ R, R = rn % 80 := ⟨_, rfl⟩
  have hr1 : (rn : Int).tmod 80 = (R : Int) := by rw [Int.tmod_eq_emod_of_nonneg (by omega)]; omega
  have hR80 : R < 80 := by omega
  have k1 : IntKind.u8.wrap (R : Int) = R := by simp only [IntKind.wrap_u8]; omega
  have k2 : IntKind.i64.wrap (R : Int) = R := IntWalk.i64_in _ (by omega)
  have k3 : IntKind.i64.wrap (10 + (R : Int)) = 10 + R := IntWalk.i64_in _ (by omega)
  have k4 : IntKind.i64.wrap (sz : Int) = sz := IntWalk.i64_in _ (by omega)
  clear hR
  go_enter Tryz.func4, Tryz.ntmps4
  go_wp2_with fail
  refine (wlknown w).mono ?_
  rintro e w2 ⟨rfl, hk2⟩
  have HK2 := Lib.hid hk2
  clear hk2
  go_wp2_with fail
  refine (dnew 65536 (by omega) w2).mono ?_
  rintro e w3 ⟨db, L1, rfl, hD, hk3, hLw⟩
  have hO := wopen hD (by decide) (wf_new 65536 (by omega) 0) rfl
  have hs2 := HK2.out.size
  have HO := Lib.hid (And.intro hO (And.intro (HK2.out.trans hk3) (fun x hx => Nat.le_trans hs2 (hLw x hx))))
  clear hO hD hk3 hLw hs2
  go_wp2_with fail
  refine HO.out.1.mono ?_
  intro e w4 hp
  obtain ⟨wb, L2, E2, d2, s2, z2, rfl, hs, hS⟩ := hp.sure HO.out.2.1 HO.out.2.2 rfl (n := 0) (Nat.le_refl _)
  obtain rfl : s2 = Ws.nil := by simpa using hs
  have HS := Lib.hid hS
  clear hp hs hS
  go_wp2_with fail
  go_loopw [8, 9] (fun v ix wr => ∃ (i : Nat) (q : ByteArray), v = .string q ∧ ix = .int .i64 (i : Int) ∧ q.size = i ∧ i ≤ sz ∧ wr = w4) (fun _ ix _ => sz - (intOf ix).toNat)
  case atStart => exact ⟨0, ⟨#[]⟩, rfl, rfl, rfl, Nat.zero_le _, rfl⟩
  case round =>
    obtain ⟨i, q, rfl, rfl, hq, hi, rfl⟩ := hrel
    rcases (by omega : i < sz ∨ i = sz) with hil | rfl
    · have m1 : (i : Int) < (sz : Int) := by omega
      have s1 : IntKind.i64.wrap ((i : Int) + 1) = i + 1 := IntWalk.i64_in _ (by omega)
      go_wp2_with fail
      go_roundw
      case rel => exact ⟨i + 1, _, rfl, by simp, by simp [ByteArray.size_append, hq]; rfl, by omega, by first | rfl | trivial⟩
      case measure => simp [intOf]; omega
    have m1 : ¬ ((i : Int) < (i : Int)) := by omega
    have hq255 : q.size ≤ 255 := by omega
    clear hq
    go_wp2_with fail
    go_loopw [6, 10, 11] (fun pw nv ix wr => ∃ (wb r N : Nat), pw = .pointer (some ⟨wb, 0, none⟩) ∧ nv = .int .u64 (N : Nat) ∧ N = 20 * r ∧ ix = .int .i64 (r : Int) ∧ r ≤ 10 + R ∧ RoundAt w wr db r wb q) (fun _ _ ix _ => 10 + R - (intOf ix).toNat)
    case atStart => exact ⟨wb, 0, 0, rfl, rfl, rfl, rfl, Nat.zero_le _, L2, E2, d2, z2, _, ⟨HS.out.disk, HS.out.wal, HS.out.wj, HS.out.halt, by have := HS.out.count; omega, HS.out.keeps, HS.out.low⟩⟩
    case round =>
      obtain ⟨wb, r, N, rfl, rfl, hN, rfl, hr, L, E, d, z, may, hS⟩ := hrel
      obtain ⟨wo, hwo⟩ : ∃ wo, wo = wr := ⟨_, rfl⟩
      subst hwo
      rcases (by omega : r < 10 + R ∨ ¬ r < 10 + R) with hrl | hrl
      rotate_left
      · have m2 : ¬ ((r : Int) < 10 + (R : Int)) := by omega
        have HF := Lib.hid hS.keeps
        clear hS
        go_wp2_with fail
        go_ret
        exact ⟨rfl, HF.out⟩
      have m2 : (r : Int) < 10 + (R : Int) := by omega
      have s2 : IntKind.i64.wrap ((r : Int) + 1) = r + 1 := IntWalk.i64_in _ (by omega)
      have q1 : IntKind.u64.wrap (r : Int) = r := IntWalk.u64_in _ (by omega)
      obtain ⟨M, hM⟩ : ∃ M, M = N + 20 := ⟨_, rfl⟩
      obtain ⟨B, hB⟩ : ∃ B, B = N + 15 := ⟨_, rfl⟩
      have q2 : IntKind.u64.wrap ((N : Int) + 20) = (M : Int) := by rw [IntWalk.u64_in _ (by omega)]; omega
      have q3 : IntKind.u64.wrap ((M : Int) - 5) = (B : Int) := by rw [IntWalk.u64_in _ (by omega)]; omega
      obtain ⟨g, hg⟩ : ∃ g, g = wo.heap.size := ⟨_, rfl⟩
      have HS1 := Lib.hid (And.intro hS hg)
      have HN := Lib.hid (And.intro hN (And.intro hM hB))
      clear hS hg hN hM hB HS
      go_wp2_with fail
      go_loopw [12, 13] (fun v ix wx => ∃ (k : Nat) (a : Option Addr) (c : Nat), v = .slice a k c ∧ ix = .int .i64 (k : Int) ∧ k ≤ 20 ∧ wx.ownsRow g 37 5 (.slice a k c) k (ents (rowE q r k)) ∧ Keeps [] wo wx) (fun _ ix _ => 20 - (intOf ix).toNat)
      case atStart => exact ⟨0, none, 0, rfl, rfl, by omega, World.ownsRow_nil _ _ _ _, Keeps.refl _ _⟩
      case round =>
        obtain ⟨k, a, c, rfl, rfl, hk, hO, hkw⟩ := hrel
        rcases (by omega : k < 20 ∨ k = 20) with hkl | rfl
        · have m3 : (k : Int) < 20 := by omega
          have s3 : IntKind.i64.wrap ((k : Int) + 1) = k + 1 := IntWalk.i64_in _ (by omega)
          have q4 : IntKind.u64.wrap (k : Int) = k := IntWalk.u64_in _ (by omega)
          have hkL := (Keeps.refl [] wr).alloc (.cells #[.int .u64 1, .int .i64 1, .int .u64 (k : Nat), .int .u64 r, .string q] 37)
          have hR8 : Re _ _ 1 [(⟨1, 1, k, r, q⟩ : Ent)] := re_lit (Blk.fresh wr 37 #[.int .u64 1, .int .i64 1, .int .u64 (k : Nat), .int .u64 r, .string q]) (by simp [ents]) (by simp)
          have hO8 := ownsRow_keep hO hkL (by simp)
          have hgs : g ≤ (wr.alloc (.cells #[.int .u64 1, .int .i64 1, .int .u64 (k : Nat), .int .u64 r, .string q] 37)).heap.size := by rw [HS1.out.2]; exact (hkw.trans hkL).size
          have H8 := Lib.hid (And.intro hR8 (And.intro hO8 (And.intro (hkw.trans hkL) hgs)))
          clear hkL hR8 hO8 hgs hO hkw
          go_wp2_with (at_builtin; refine wpList_append_by _ rfl _ _ 34 34 rfl g 37 iE zE 5 48 Tryz.underlying34 hiE hzE hsE hbE hcE a k c _ rfl H8.out.2.1 _ rfl 1 _ (H8.out.1.src Tryz.underlying34) (by unfold maxLen; omega) (by omega) H8.out.2.2.2 ?_; intro a5 c5 w5 hO5 hk5 hb5)
          go_roundw
          case rel =>
            refine ⟨k + 1, a5, c5, rfl, by simp, by omega, ?_, H8.out.2.2.1.step hk5 (fun y hy => .inr ?_)⟩
            · rw [rowE_succ, ents_append]; exact hO5
            · have := (ownsRow_lt H8.out.2.1 y hy).1; rw [HS1.out.2] at this; exact this
          case measure => simp [intOf]; omega
        have hR20 : Re wr a c (rowE q r 20) := re_ownL (sl_of_ownW hO (ents_one _)) (rowE_len q r 20).symm
        have hS2 := HS1.out.1.keep0 hkw
        have hof2 : ∀ ad, a = some ad → Off wr wb L E ad.block := fun ad e => by
          have := ownsRow_lt hO ad.block (by rw [e]; simp)
          rw [HS1.out.2] at this
          exact HS1.out.1.new this.1 this.2
        have hsl : Slim (rs q r).es := rs_slim hq255 r
        have hln := rs_len q r
        have hA := wappend_do (may' := may ++ (List.range 21).map fun j => { rs q r with es := (rs q r).es ++ (rowE q r 20).take j }) hS2.wal hS2.disk okO_nil hS2.wj (by have := hS2.count; omega) (by have := hsl.sum; omega) a c _ hR20 (rowE_may hq255 (by omega) (by omega)) (by have := (rowE_slim hq255 r 20).sum; rw [rowE_len] at this; omega) (fun ad e _ => (hof2 ad e).2) (fun x hx => List.mem_append_left _ hx) (fun j hj => List.mem_append_right _ (List.mem_map.2 ⟨j, by rw [rowE_len] at hj; simp; omega, rfl⟩))
        rw [rowE_len] at hA
        have HA := Lib.hid (And.intro hA (And.intro hS2 (And.intro hR20 hof2)))
        have HL := Lib.hid (And.intro hsl hln)
        clear hR20 hS2 hof2 hA hsl hln hO hkw
        go_wp2_with fail
        refine HA.out.1.mono ?_
        intro e w5 hp
        obtain ⟨-, hS2, hR2, hof2⟩ := HA.out
        obtain ⟨L5, E5, d5, z5, rfl, hS5, hst5⟩ := hS2.did2 hp
        obtain ⟨hR5, hof5⟩ := hst5.sl hof2 hR2
        have hH := wsethard_do (may' := Ws.ev { rs q r with es := (rs q r).es ++ rowE q r 20 } (.hard r 1) :: _) hS5.wal hS5.disk okO_nil hS5.wj (by have := hS5.count; omega) (by have := (HL.out.1.append (rowE_slim hq255 r 20)).sum; rw [List.length_append, rowE_len] at this; have := HL.out.2; show entSum ((rs q r).es ++ rowE q r 20) ≤ _; omega) r 1 ⟨by omega, by omega, by omega⟩ (fun x hx => .tail _ hx) (.head _)
        have HH := Lib.hid (And.intro hH (And.intro hS5 (And.intro hR5 hof5)))
        clear hp hS2 hR2 hof2 hS5 hst5 hR5 hof5 hH HA
        go_wp2_with fail
        refine HH.out.1.mono ?_
        intro e w6 hp
        obtain ⟨-, hS5, hR5, hof5⟩ := HH.out
        obtain ⟨L6, E6, d6, z6, rfl, hS6, hst6⟩ := hS5.did2 hp
        obtain ⟨hR6, hof6⟩ := hst6.sl hof5 hR5
        have HY := Lib.hid (And.intro (wsync_do hS6.wal hS6.disk hS6.wj (by have := hS6.count; omega)) (And.intro hS6 (And.intro hR6 hof6)))
        clear hp hS5 hR5 hof5 hS6 hst6 hR6 hof6 HH
        go_wp2_with fail
        refine HY.out.1.mono ?_
        intro e w7 hp
        obtain ⟨-, hS6, hR6, hof6⟩ := HY.out
        obtain ⟨L7, E7, d7, rfl, hS7, hst7⟩ := hS6.synced2 hp
        obtain ⟨hR7, hof7⟩ := hst7.sl hof6 hR6
        have hDp := wdrop_do (may' := Ws.ev (Ws.ev { rs q r with es := (rs q r).es ++ rowE q r 20 } (.hard r 1)) (.drop B 1) :: _) hS7.wal hS7.disk okO_nil hS7.wj (by have := hS7.count; omega) (by have := (HL.out.1.append (rowE_slim hq255 r 20)).sum; rw [List.length_append, rowE_len] at this; have := HL.out.2; show entSum ((rs q r).es ++ rowE q r 20) ≤ _; omega) B 1 ⟨by have := rs_base q r; have := HN.out.1; have := HN.out.2.2; show (rs q r).base ≤ B; omega, by have := HN.out.1; have := HN.out.2.2; omega, by omega⟩ (fun x hx => .tail _ hx) (.head _)
        have hev : Ws.ev (Ws.ev { rs q r with es := (rs q r).es ++ rowE q r 20 } (.hard r 1)) (.drop B 1) = rs q (r + 1) := by
          rw [← rs_step, HN.out.2.2, HN.out.1]
        rw [hev, show ((1 : Nat) : Int) = 1 from rfl] at hDp
        have HD := Lib.hid (And.intro hDp (And.intro hS7 (And.intro hR7 hof7)))
        clear hp hS6 hR6 hof6 hS7 hst7 hR7 hof7 hDp hev HY
        go_wp2_with fail
        refine HD.out.1.mono ?_
        intro e w8 hp
        obtain ⟨-, hS7, hR7, hof7⟩ := HD.out
        obtain ⟨L8, E8, d8, z8, rfl, hS8, hst8⟩ := hS7.did2 hp
        obtain ⟨hR8, hof8⟩ := hst8.sl hof7 hR7
        have HY := Lib.hid (And.intro (wsync_do hS8.wal hS8.disk hS8.wj (by have := hS8.count; omega)) (And.intro hS8 (And.intro hR8 hof8)))
        clear hp hS7 hR7 hof7 hS8 hst8 hR8 hof8 HD
        go_wp2_with fail
        refine HY.out.1.mono ?_
        intro e w9 hp
        obtain ⟨-, hS8, hR8, hof8⟩ := HY.out
        obtain ⟨L9, E9, d9, rfl, hS9, hst9⟩ := hS8.synced2 hp
        obtain ⟨hR9, hof9⟩ := hst9.sl hof8 hR8
        have H9 := Lib.hid (And.intro hS9 (And.intro hR9 hof9))
        obtain ⟨qq, hqq⟩ : ∃ qq : Bool, qq = ((r : Int) % 16 == 15) := ⟨_, rfl⟩
        have HQ := Lib.hid hqq
        clear hp hS8 hR8 hof8 hS9 hst9 hR9 hof9 HY hqq
        go_upto_region 26 with (fail)
        go_cut [90] (fun v wx => v = .bool qq ∧ wx = w9)
        case first =>
          go_wp2_with fail
          go_meet
          exact ⟨by rw [HQ.out], rfl⟩
        case rest =>
        obtain ⟨rfl, hw⟩ := hcut
        obtain rfl := hw.symm
        go_upto_if 90 with (fail)
        go_cut [6] (fun pw wx => ∃ wb' L E d z may, pw = .pointer (some ⟨wb', 0, none⟩) ∧ Sure w wx wb' db L E [] d (rs q (r + 1)) z may (100 + 40 * (r + 1)) ∧ Re wx a c (rowE q r 20))
        case first =>
          cases qq with
          | false =>
            go_wp2_with fail
            go_meet
            obtain ⟨hS9, hR9, hof9⟩ := H9.out
            exact ⟨wb, L9, E9, d9, z8, _, rfl, ⟨hS9.disk, hS9.wal, hS9.wj, hS9.halt, by have := hS9.count; omega, hS9.keeps, hS9.low⟩, hR9⟩
          | true =>
            have hCr := dcrash H9.out.1.disk [] (Sl.none _ _) (fun ad e => nomatch e)
            have HC := Lib.hid hCr
            clear hCr
            go_wp2_with fail
            refine HC.out.mono ?_
            rintro e w11 ⟨rfl, hD11, hk11⟩
            have HO := Lib.hid (H9.out.1.reopen okO_nil (by omega) hD11 hk11)
            clear hD11 hk11
            go_wp2_with fail
            refine HO.out.mono ?_
            rintro e w12 ⟨wb2, L12, E12, d12, s12, z12, rfl, hs12, hS12, hst12⟩
            obtain rfl : s12 = rs q (r + 1) := by simpa using hs12
            obtain ⟨hR12, hof12⟩ := hst12.sl H9.out.2.2 H9.out.2.1
            have H12 := Lib.hid (And.intro hS12 hR12)
            clear hs12 hS12 hst12 hR12 hof12 HC HO
            go_wp2_with fail
            go_meet
            obtain ⟨hS12, hR12⟩ := H12.out
            exact ⟨wb2, L12, E12, d12, z12, _, rfl, ⟨hS12.disk, hS12.wal, hS12.wj, hS12.halt, by have := hS12.count; omega, hS12.keeps, hS12.low⟩, hR12⟩
        case rest =>
        obtain ⟨wb3, L13, E13, d13, z13, may13, rfl, hS13, hR13⟩ := hcut
        generalize wc = w13 at *
        have hB1 : (rs q (r + 1)).base = B := by have := HN.out.1; have := HN.out.2.2; simp only [rs]; omega
        have hBs := wbase hS13.wal
        rw [hB1, show (rs q (r + 1)).bt = 1 from rfl, show ((1 : Nat) : Int) = 1 from rfl] at hBs
        have HB := Lib.hid (And.intro hBs (And.intro hS13 hR13))
        clear hBs hB1 hS13 hR13
        go_wp2_with fail
        refine HB.out.1.mono ?_
        rintro e w14 ⟨rfl, hk14⟩
        have hS14 := HB.out.2.1.keep0 hk14
        have hR14 := HB.out.2.2.keep0 hk14
        obtain ⟨ab, ao, rfl⟩ := hR14.at (by have := hR14.cap; rw [rowE_len] at this; omega)
        have hcp := hR14.cap
        rw [rowE_len] at hcp
        have H14 := Lib.hid (And.intro hS14 hR14)
        clear hS14 hR14 hk14
        go_upto_region 32 with (fail)
        refine startU ([] : List (Nat × (World → Prop))) (by kernel_rfl) ?_
        have hkd := (Keeps.refl [] w14).drew
        generalize World.drew w14 = w15 at *
        refine takeU (i := 0) (v := ?_) rfl (by kernel_rfl) (fun _ _ _ h => h) (Or.inl ⟨by rfl, fun w0 hw0 => ?_⟩) (fun p hp _ => noneR p hp) ?_
        rotate_left
        · simp [Reads] at hw0
          go_simp
          try with_reducible rfl
        try go_simp
        refine takeU (i := 1) (v := ?_) rfl (by kernel_rfl) (fun _ _ _ h => h) (Or.inl ⟨by rfl, fun w0 hw0 => ?_⟩) (fun p hp _ => noneR p hp) ?_
        rotate_left
        · simp [Reads] at hw0
          go_simp
          try with_reducible rfl
        try go_simp
        refine takeU (i := 2) (v := ?_) rfl (by kernel_rfl) (fun _ _ _ h => h) (Or.inl ⟨by rfl, fun w0 hw0 => ?_⟩) (fun p hp _ => noneR p hp) ?_
        rotate_left
        · simp [Reads] at hw0
          go_simp
          try with_reducible rfl
        try go_simp
        refine takeU (i := 3) (v := ?_) rfl (by kernel_rfl) (fun _ _ _ h => h) (Or.inl ⟨by rfl, fun w0 hw0 => ?_⟩) (fun p hp _ => noneR p hp) ?_
        rotate_left
        · simp [Reads] at hw0
          go_simp
          try with_reducible rfl
        try go_simp
        refine takeU (i := 4) (v := ?_) rfl (by kernel_rfl) (fun _ _ _ h => h) (Or.inl ⟨by rfl, fun w0 hw0 => ?_⟩) (fun p hp _ => noneR p hp) ?_
        rotate_left
        · simp [Reads] at hw0
          go_simp
          try with_reducible rfl
        try go_simp
        refine takeU (i := 5) (v := ?_) rfl (by kernel_rfl) (fun _ _ _ h => h) (Or.inl ⟨by rfl, fun w0 hw0 => ?_⟩) (fun p hp _ => noneR p hp) ?_
        rotate_left
        · simp [Reads] at hw0
          go_simp
          try with_reducible rfl
        try go_simp
        refine takeU (i := 6) (v := ?_) rfl (by kernel_rfl) (fun _ _ _ h => h) (Or.inl ⟨by rfl, fun w0 hw0 => ?_⟩) (fun p hp _ => noneR p hp) ?_
        rotate_left
        · simp [Reads] at hw0
          go_simp
          try with_reducible rfl
        try go_simp
        refine takeU (i := 7) (v := ?_) rfl (by kernel_rfl) (fun _ _ _ h => h) (Or.inl ⟨by rfl, fun w0 hw0 => ?_⟩) (fun p hp _ => noneR p hp) ?_
        rotate_left
        · simp [Reads] at hw0
          go_simp
          try with_reducible rfl
        try go_simp
        refine takeU (i := 8) (v := ?_) rfl (by kernel_rfl) (fun _ _ _ h => h) (Or.inl ⟨by rfl, fun w0 hw0 => ?_⟩) (fun p hp _ => noneR p hp) ?_
        rotate_left
        · simp [Reads] at hw0
          go_simp
          try with_reducible rfl
        try go_simp
        refine takeU (i := 9) (v := ?_) rfl (by kernel_rfl) (fun _ _ _ h => h) (Or.inl ⟨by rfl, fun w0 hw0 => ?_⟩) (fun p hp _ => noneR p hp) ?_
        rotate_left
        · simp [Reads] at hw0
          go_simp
          try with_reducible rfl
        try go_simp
        refine takeU (i := 11) (v := ?_) rfl (by kernel_rfl) (fun _ _ _ h => h) (Or.inl ⟨by rfl, fun w0 hw0 => ?_⟩) (fun p hp _ => noneR p hp) ?_
        rotate_left
        · simp [Reads] at hw0
          go_simp
          try with_reducible rfl
        try go_simp
        have m20 : (20 : Int) ≤ (c : Int) := by omega
        have m15 : (15 : Int) ≤ (c : Int) := by omega
        refine takeU (i := 12) (v := ?_) rfl (by kernel_rfl) (fun _ _ _ h => h) (Or.inl ⟨by rfl, fun w0 hw0 => ?_⟩) (fun p hp _ => noneR p hp) ?_
        rotate_left
        · simp [Reads] at hw0
          go_simp
          try with_reducible rfl
        try go_simp
        have hEn := wentries (H14.out.1.wal.keep0 hkd) (by have := rs_len q (r + 1); omega)
        rw [show (rs q (r + 1)).es.length = 5 by simp [rs, rowE_len]] at hEn
        have HE := Lib.hid hEn
        clear hEn
        refine oneU (i := 10) rfl (by kernel_rfl) (fun K hK => ?_)
        rw [if_pos (show Region.wanted _ _ = true from rfl)]
        go_wp2_with fail
        refine HE.out.mono ?_
        rintro e w16 ⟨bo, dd, rfl, hO, hk16⟩
        try dsimp only
        have hR16 : Re w16 bo dd ((rowE q r 20).drop 15) := re_ownL (sl_of_ownW hO (ents_one _)) (by simp [rowE_len])
        have hk46 := hkd.trans hk16
        have hDr := H14.out.2.keep0 hk46
        have hRd : ∃ ax, ax = (if c = 15 then some ⟨ab, ao, none⟩ else (some (⟨ab, ao, none⟩ : Addr)).map (·.add (15 * 5))) ∧ Re w16 ax (c - 15) ((rowE q r 20).drop 15) := by
          refine ⟨_, rfl, ?_⟩
          have h1 := hDr.drop (k := 15) (by rw [rowE_len]; omega)
          rw [ents_drop] at h1
          exact re_ownL h1 (by simp)
        obtain ⟨ax, hax, hRd⟩ := hRd
        rw [if_neg (by omega)] at hax
        subst hax
        have HM := Lib.hid (And.intro (ents_same bo _ dd (c - 15) _ w16 hR16 hRd) hk46)
        clear hO hR16 hk16 hk46 hDr hRd hkd
        refine hK _ _ (fun q hq _ _ => noneR q hq) ?_
        clear hK K
        try go_simp
        clear m20 m15
        refine oneU (i := 13) rfl (by kernel_rfl) (fun K hK => ?_)
        rw [if_pos (show Region.wanted _ _ = true from rfl)]
        go_wp2_with fail
        refine HM.out.1.mono ?_
        rintro e w17 ⟨rfl, hk17⟩
        try dsimp only
        have hk47 := HM.out.2.trans hk17
        have hHd := whard (H14.out.1.wal.keep0 hk47)
        rw [show (rs q (r + 1)).term = r from rfl, show (rs q (r + 1)).vote = 1 from rfl] at hHd
        have HH := Lib.hid (And.intro hHd hk47)
        clear hk17 hk47 hHd
        refine hK _ _ (fun q hq _ _ => noneR q hq) ?_
        clear hK K
        try go_simp
        refine takeU (i := 14) (v := ?_) rfl (by kernel_rfl) (fun _ _ _ h => h) (Or.inl ⟨by rfl, fun w0 hw0 => ?_⟩) (fun p hp _ => noneR p hp) ?_
        rotate_left
        · simp [Reads] at hw0
          go_simp
          try with_reducible rfl
        try go_simp
        refine takeU (i := 15) (v := ?_) rfl (by kernel_rfl) (fun _ _ _ h => h) (Or.inl ⟨by rfl, fun w0 hw0 => ?_⟩) (fun p hp _ => noneR p hp) ?_
        rotate_left
        · simp [Reads] at hw0
          go_simp
          try with_reducible rfl
        try go_simp
        refine takeU (i := 16) (v := ?_) rfl (by kernel_rfl) (fun _ _ _ h => h) (Or.inl ⟨by rfl, fun w0 hw0 => ?_⟩) (fun p hp _ => noneR p hp) ?_
        rotate_left
        · simp [Reads] at hw0
          go_simp
          try with_reducible rfl
        try go_simp
        refine takeU (i := 17) (v := ?_) rfl (by kernel_rfl) (fun _ _ _ h => h) (Or.inl ⟨by rfl, fun w0 hw0 => ?_⟩) (fun p hp _ => noneR p hp) ?_
        rotate_left
        · simp [Reads] at hw0
          go_simp
          try with_reducible rfl
        try go_simp
        refine takeU (i := 20) (v := ?_) rfl (by kernel_rfl) (fun _ _ _ h => h) (Or.inl ⟨by rfl, fun w0 hw0 => ?_⟩) (fun p hp _ => noneR p hp) ?_
        rotate_left
        · simp [Reads] at hw0
          go_simp
          try with_reducible rfl
        try go_simp
        refine takeU (i := 21) (v := ?_) rfl (by kernel_rfl) (fun _ _ _ h => h) (Or.inl ⟨by rfl, fun w0 hw0 => ?_⟩) (fun p hp _ => noneR p hp) ?_
        rotate_left
        · simp [Reads] at hw0
          go_simp
          try with_reducible rfl
        try go_simp
        refine oneU (i := 18) rfl (by kernel_rfl) (fun K hK => ?_)
        rw [if_pos (show Region.wanted _ _ = true from rfl)]
        go_wp2_with fail
        refine HH.out.1.mono ?_
        rintro e w18 ⟨rfl, hk18⟩
        try dsimp only
        have HK := Lib.hid (HH.out.2.trans hk18)
        clear hk18
        refine hK _ _ (fun q hq _ _ => noneR q hq) ?_
        clear hK K
        try go_simp
        have hFld := run_hardT (.int .u64 (r : Nat)) (.int .i64 1)
        refine takeU (i := 19) (v := ?_) rfl (by kernel_rfl) (fun _ _ _ h => h) (Or.inl ⟨by rfl, fun w0 hw0 => ?_⟩) (fun p hp _ => noneR p hp) ?_
        rotate_left
        · simp [Reads] at hw0
          go_simp
          try with_reducible rfl
        try go_simp
        clear hFld
        refine takeU (i := 22) (v := ?_) rfl (by kernel_rfl) (fun _ _ _ h => h) (Or.inl ⟨by rfl, fun w0 hw0 => ?_⟩) (fun p hp _ => noneR p hp) ?_
        rotate_left
        · simp [Reads] at hw0
          go_simp
          try with_reducible rfl
        try go_simp
        refine takeU (i := 23) (v := ?_) rfl (by kernel_rfl) (fun _ _ _ h => h) (Or.inl ⟨by rfl, fun w0 hw0 => ?_⟩) (fun p hp _ => noneR p hp) ?_
        rotate_left
        · simp [Reads] at hw0
          go_simp
          try with_reducible rfl
        try go_simp
        refine doneU (by kernel_rfl) ?_
        go_wp2_with fail
        go_roundw
        case rel =>
          have hS18 := H14.out.1.keep0 HK.out
          exact ⟨wb3, r + 1, M, rfl, rfl, by have := HN.out.1; have := HN.out.2.1; omega, by simp, by omega, L13, E13, d13, z13, may13, hS18⟩
        case measure => simp [intOf]; omega
end Go.Proofs.YtfgmbjdeimallaaGreat
