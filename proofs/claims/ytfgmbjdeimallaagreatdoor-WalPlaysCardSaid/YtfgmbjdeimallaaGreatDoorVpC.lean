/- WalPlays: does, whatever it is asked; calls of the wal beside it. -/
import Derived.Test.YtfgmbjdeimallaaGreatDoorVpA
import Derived.Deep.DeepCutAuto
import Derived.Deep.CutBlock
import Derived.Deep.CutRange

namespace Go.Proofs.YtfgmbjdeimallaaGreatDoor
open Go.RowKit Go.Lib

/-- what does says -/
inductive DoesR (s : Ws) (y : Wp) : List Ws → Int → Prop
  | hardBad (h0 : y.what = 0) (h : y.vote < -1 ∨ 1000 < y.vote) : DoesR s y [] 20
  | hard (h0 : y.what = 0) (h : -1 ≤ y.vote ∧ y.vote ≤ 1000) : DoesR s y [s.ev (.hard y.tm y.vote)] 0
  | app (h0 : y.what = 1 ∨ y.what = 2 ∨ y.what = 3) (h : ∀ v ∈ y.l, entOk v = true) : DoesR s y (grows s y.l y.l.length) 0
  | appBad (h0 : y.what = 1 ∨ y.what = 2 ∨ y.what = 3) (h : ∃ v ∈ y.l, entOk v = false) : DoesR s y [] 20
  | cutBad (h0 : y.what = 4) (h : y.ix ≤ s.base ∨ s.last + 1 < y.ix) : DoesR s y [] 40
  | cut (h0 : y.what = 4) (h : s.base < y.ix ∧ y.ix ≤ s.last + 1) : DoesR s y [s.ev (.cut y.ix)] 0
  | dropBad (h0 : y.what = 5) (h : y.ix < s.base ∨ 4611686018427387904 < y.ix) : DoesR s y [] 40
  | drop (h0 : y.what = 5) (h : s.base ≤ y.ix ∧ y.ix ≤ 4611686018427387904) : DoesR s y [s.ev (.drop y.ix y.tm)] 0
def DsAny (w : World) (x : Stp) (y : Wp) (e : Ending) (w' : World) : Prop := ∃ nl k, DoesR x.s y nl k ∧ DsPost w x.la nl k e w'
theorem sdoes_any (x : Stp) (y : Wp) (w : World) (hA : x.At w) (hy : y.okw w) (hs : x.s.Ok) (hel : x.s.es.length ≤ 1000000) (hyl : y.l.length ≤ 1000) (hw : 0 ≤ y.what ∧ y.what ≤ 5) :
    Calls Tryz.prog 21 #[.agg #[.int .u64 (x.s.term : Nat), .int .i64 x.s.vote, .int .u64 (x.s.base : Nat), .int .u64 (x.s.bt : Nat), .slice x.la x.s.es.length x.lc], .agg #[.int .i64 y.what, .int .i64 y.n, .int .u64 (y.ix : Nat), .int .u64 (y.tm : Nat), .int .i64 y.vote, .slice y.la y.l.length y.lc, .slice y.ka y.keep.length y.kc]] w (DsAny w x y) := by
  have hb := hs.base
  rcases (by omega : y.what = 0 ∨ (y.what = 1 ∨ y.what = 2 ∨ y.what = 3) ∨ y.what = 4 ∨ y.what = 5) with h0 | h0 | h0 | h0
  · by_cases hv : -1 ≤ y.vote ∧ y.vote ≤ 1000
    · rw [h0]
      exact (sdoes_hard x y w hA hv).mono fun e w' h => ⟨_, _, .hard h0 hv, h⟩
    · rw [h0]
      exact (sdoes_hard_bad x y w (by omega)).mono fun e w' h => ⟨_, _, .hardBad h0 (by omega), h⟩
  · refine (sdoes_app y.what h0 x y w hA hel hyl hy.re hy.ents).mono fun e w' h => ?_
    by_cases hv : ∃ v ∈ y.l, entOk v = false
    · exact ⟨_, _, .appBad h0 hv, h.2 hv⟩
    · have hv2 : ∀ v ∈ y.l, entOk v = true := fun v hm => by
        cases hq : entOk v with
        | true => rfl
        | false => exact absurd ⟨v, hm, hq⟩ hv
      exact ⟨_, _, .app h0 hv2, h.1 hv2⟩
  · by_cases hv : x.s.base < y.ix ∧ y.ix ≤ x.s.last + 1
    · rw [h0]
      exact (sdoes_cut x y w hA hb hel hv).mono fun e w' h => ⟨_, _, .cut h0 hv, h⟩
    · rw [h0]
      exact (sdoes_cut_bad x y w hb hel (by omega)).mono fun e w' h => ⟨_, _, .cutBad h0 (by omega), h⟩
  · by_cases hv : x.s.base ≤ y.ix ∧ y.ix ≤ 4611686018427387904
    · rw [h0]
      exact (sdoes_drop x y w hA hb hel hv).mono fun e w' h => ⟨_, _, .drop h0 hv, h⟩
    · rw [h0]
      exact (sdoes_drop_bad x y w hy.ix (by omega)).mono fun e w' h => ⟨_, _, .dropBad h0 (by omega), h⟩

/-- blocks of states -/
def StB (w : World) (K : List Nat) : Prop := ∀ b ∈ K, ∃ cs, w.heap[b]? = some (.cells cs 57 (0, 0))
theorem StB.off {w : World} {K : List Nat} {b : Nat} {t : TypeId} {cs : Array Value} (h : StB w K) (hB : Blk w b t cs) (ht : t ≠ 57) : b ∉ K := fun hb => by
  obtain ⟨cs', h'⟩ := h b hb
  unfold Blk at hB
  rw [h'] at hB
  simp only [Option.some.injEq, Obj.cells.injEq] at hB
  exact ht hB.2.1.symm
theorem errF_st {w W : World} {K : List Nat} {v : Value} {f : Nat} (h : ErrF w v f) (hk : Keeps K w W) (hK : StB w K) : ErrF W v f := by
  rcases h with h | ⟨h0, g, p, rfl, hB⟩
  · exact .inl h
  · exact .inr ⟨h0, g, p, rfl, hB.keep hk (hK.off hB (by decide))⟩
theorem errP_st {w W : World} {K : List Nat} {v : Value} {f : Nat} (h : ErrP w v f) (hk : Keeps K w W) (hK : StB w K) : ErrP W v f := by
  cases h with
  | base h => exact .base (errF_st h hk hK)
  | placed he hB h h0 => exact .placed he (hB.keep hk (hK.off hB (by decide))) (errF_st h hk hK) h0
/-- an error of a class that is neither 0 nor 32 -/
def BadEv (w : World) (v : Value) (k : Int) : Prop := k ≠ 0 ∧ k ≠ 32 ∧ ((∃ p, DE w v (.bad p k)) ∨ (k = 20 ∧ ErrP w v 20))
theorem bad_de {w : World} {v : Value} {p : List UInt8} {c : Int} (h : DE w v (.bad p c)) (h0 : c ≠ 0) (h1 : c ≠ 32) : BadEv w v c := ⟨h0, h1, .inl ⟨p, h⟩⟩
theorem bad_errP {w : World} {v : Value} (h : ErrP w v 20) : BadEv w v 20 := ⟨by decide, by decide, .inr ⟨rfl, h⟩⟩
theorem BadEv.keep {w W : World} {K : List Nat} {v : Value} {k : Int} (h : BadEv w v k) (hk : Keeps K w W) (hK : StB w K) : BadEv W v k := by
  obtain ⟨h0, h1, ⟨p, g, rfl, hB⟩ | ⟨h2, h3⟩⟩ := h
  · exact ⟨h0, h1, .inl ⟨p, g, rfl, hB.keep hk (hK.off hB (by decide))⟩⟩
  · exact ⟨h0, h1, .inr ⟨h2, errP_st h3 hk hK⟩⟩
theorem BadEv.form {w : World} {v : Value} {k : Int} (h : BadEv w v k) : ∃ ty u, v = .iface ty u := by
  obtain ⟨_, _, ⟨p, g, rfl, _⟩ | ⟨_, h3⟩⟩ := h
  · exact ⟨_, _, rfl⟩
  · exact h3.bad (by decide)
theorem class_bad {w : World} {v : Value} {k : Int} (hg : (w).cell? ⟨0, 0, none⟩ = some (.iface 140 (.agg #[.pointer (some ⟨1, 38, none⟩)]))) (h : BadEv w v k) : Calls Tryz.prog 12 #[v] w fun e w' => e = .returned (.int .i64 k) ∧ Keeps [] w w' := by
  obtain ⟨_, _, ⟨p, h⟩ | ⟨rfl, h⟩⟩ := h
  · exact class_de (r := .bad p k) hg h
  · exact classP_any hg h

def lastOr (nl : List Ws) (s : Ws) : Ws := nl.getLast?.getD s
theorem lastOr_grows (s : Ws) (l : List Ent) : lastOr (grows s l l.length) s = { s with es := s.es ++ l } := by
  cases hl : l.length with
  | zero =>
    obtain rfl : l = [] := List.eq_nil_of_length_eq_zero hl
    simp [grows, lastOr]
  | succ n =>
    rw [grows_succ]
    simp [lastOr]
    rw [← hl, List.take_length]
/-- behind a call of the wal: v: its error; nl, k: what does said -/
def OqRel (w : World) (wb db : Nat) (L E : List Nat) (d : DSt) (s : Ws) (may nl : List Ws) (k : Int) (v : Value) (w' : World) : Prop :=
  ∃ L' d', Disk w' L' db d' ∧ d'.count ≤ d.count + 4 ∧ Keeps (wb :: (L ++ E)) w w' ∧ (∀ b ∈ L', b ∈ L ∨ w.heap.size ≤ b) ∧
    ((((v = .nilIface ∧ k = 0) ∨ (BadEv w' v k ∧ nl = [])) ∧ ∃ E' z', WalAt w' wb db (lastOr nl s) z' E' ∧ WJ [] d' (lastOr nl s) z' (may ++ nl) ∧ ∀ b ∈ E', b ∈ E ∨ w.heap.size ≤ b) ∨
      (v = (Value.iface 75 (.int .i64 32)) ∧ k = 0 ∧ WF [] d' (may ++ nl)))
def OqPost (w : World) (wb db : Nat) (L E : List Nat) (d : DSt) (s : Ws) (may nl : List Ws) (k : Int) (e : Ending) (w' : World) : Prop := ∃ v, e = .returned v ∧ OqRel w wb db L E d s may nl k v w'

section
variable {w : World} {wb db : Nat} {s : Ws} {z : Int} {E L : List Nat} {d : DSt} {may nl : List Ws} {k : Int} {y : Wp}
theorem op_do {s' : Ws} {e : Ending} {w' : World} (hs : s' = lastOr nl s) (h : DoP w L E wb db [] d s' (may ++ nl) e w') : OqPost w wb db L E d s may nl 0 e w' := by
  obtain ⟨ev, L', E', d', z', r, rfl, hE, hD, hk, hL, hE', hc, _, hh⟩ := h
  refine ⟨ev, rfl, L', d', hD, hc, hk, hL, ?_⟩
  rcases hh with ⟨rfl, hW, hJ, _⟩ | ⟨rfl, hF, _⟩
  · rw [hs] at hW hJ
    exact .inl ⟨.inl ⟨hE, rfl⟩, E', z', hW, hJ, hE'⟩
  · exact .inr ⟨hE, rfl, hF⟩
theorem op_bad {s' : Ws} {e : Ending} {w' : World} {p : List UInt8} (h0 : k ≠ 0) (h1 : k ≠ 32) (hJ : WJ [] d s z may) (h : WPost w L E wb db s s' (d, z, .bad p k) e w') : OqPost w wb db L E d s may [] k e w' := by
  obtain ⟨ev, L', E', rfl, hE, hD, hW, hk, hL, hE'⟩ := h
  refine ⟨ev, rfl, L', d, hD, by omega, hk, hL, .inl ⟨.inr ⟨bad_de hE h0 h1, rfl⟩, E', z, by simpa [DRes.isOk, lastOr] using hW, by simpa [lastOr] using hJ, hE'⟩⟩
/-- what the calls ask for -/
structure OqIn (w : World) (wb db : Nat) (L E : List Nat) (d : DSt) (s : Ws) (z : Int) (may : List Ws) : Prop where
  wal : WalAt w wb db s z E
  disk : Disk w L db d
  wj : WJ [] d s z may
  count : d.count < 1000000
  sum : entSum s.es ≤ 14900
theorem op_hard (h : OqIn w wb db L E d s z may) (hd : DoesR s y nl k) (h0 : y.what = 0) (ht : y.tm < 18446744073709551616) :
    Calls Tryz.prog 13 #[.pointer (some ⟨wb, 0, none⟩), .agg #[.int .u64 (y.tm : Nat), .int .i64 y.vote]] w (OqPost w wb db L E d s may nl k) := by
  cases hd with
  | hardBad _ hv => exact (wsethard_bad h.wal h.disk y.tm y.vote hv).mono fun e w' hp => op_bad (by decide) (by decide) h.wj hp
  | hard _ hv => exact (wsethard_do (may' := may ++ [s.ev (.hard y.tm y.vote)]) h.wal h.disk okO_nil h.wj h.count h.sum y.tm y.vote ⟨ht, hv.1, hv.2⟩ (fun x hx => List.mem_append.2 (.inl hx)) (by simp)).mono fun e w' hp => op_do rfl hp
  | _ => omega
theorem op_cut (h : OqIn w wb db L E d s z may) (hd : DoesR s y nl k) (h0 : y.what = 4) (ht : y.ix < 18446744073709551616) :
    Calls Tryz.prog 22 #[.pointer (some ⟨wb, 0, none⟩), .int .u64 (y.ix : Nat)] w (OqPost w wb db L E d s may nl k) := by
  cases hd with
  | cutBad _ hv => exact (wcut_bad h.wal h.disk h.wj.ok (by have := h.wj.most; omega) y.ix ht (by intro hm; have h1 := hm.1; have h2 := hm.2; omega)).mono fun e w' hp => op_bad (by decide) (by decide) h.wj hp
  | cut _ hv => exact (wcut_do (may' := may ++ [s.ev (.cut y.ix)]) h.wal h.disk okO_nil h.wj h.count h.sum y.ix hv (fun x hx => List.mem_append.2 (.inl hx)) (by simp)).mono fun e w' hp => op_do rfl hp
  | _ => omega
theorem op_drop (h : OqIn w wb db L E d s z may) (hd : DoesR s y nl k) (h0 : y.what = 5) (ht : y.tm < 18446744073709551616) :
    Calls Tryz.prog 23 #[.pointer (some ⟨wb, 0, none⟩), .int .u64 (y.ix : Nat), .int .u64 (y.tm : Nat)] w (OqPost w wb db L E d s may nl k) := by
  cases hd with
  | dropBad _ hv => exact (wdrop_bad h.wal h.disk y.ix y.tm hv).mono fun e w' hp => op_bad (by decide) (by decide) h.wj hp
  | drop _ hv => exact (wdrop_do (may' := may ++ [s.ev (.drop y.ix y.tm)]) h.wal h.disk okO_nil h.wj h.count h.sum y.ix y.tm ⟨hv.1, hv.2, ht⟩ (fun x hx => List.mem_append.2 (.inl hx)) (by simp)).mono fun e w' hp => op_do rfl hp
  | _ => omega
theorem op_app (h : OqIn w wb db L E d s z may) (hd : DoesR s y nl k) (h0 : y.what = 1 ∨ y.what = 2 ∨ y.what = 3) (la : Option Addr) (lc : Nat) (hR : Re w la lc y.l) (he : ∀ e ∈ y.l, e.term < 18446744073709551616 ∧ e.client < 18446744073709551616 ∧ e.seq < 18446744073709551616) (hll : y.l.length ≤ 12) (hsum : sumE y.l ≤ 12000) (hlo : ∀ ad, la = some ad → ad.block ∉ wb :: (L ++ E)) :
    Calls Tryz.prog 11 #[.pointer (some ⟨wb, 0, none⟩), .slice la y.l.length lc] w (OqPost w wb db L E d s may nl k) := by
  cases hd with
  | appBad _ hv =>
    refine (wappend_bad la lc y.l hR he (by omega) hv).mono ?_
    rintro e w' ⟨ev, rfl, hE, hk⟩
    exact ⟨ev, rfl, L, d, h.disk.keep0 hk, by omega, hk.of_nil, fun _ h => .inl h, .inl ⟨.inr ⟨bad_errP hE, rfl⟩, E, z, by simpa [lastOr] using h.wal.keep0 hk, by simpa [lastOr] using h.wj, fun _ h => .inl h⟩⟩
  | app _ hv =>
    have hm : ∀ x ∈ y.l, x.May := fun x hx => ⟨hv x hx, he x hx⟩
    have hes : entSum y.l ≤ 14900 := by
      have h1 : ∀ l : List Ent, entSum l = sumE l + 2 * l.length := by
        intro l
        induction l with
        | nil => rfl
        | cons x l ih => simp only [entSum, sumE, List.map_cons, List.sum_cons, List.length_cons] at ih ⊢; omega
      rw [h1]
      omega
    refine (wappend_do (may' := may ++ grows s y.l y.l.length) h.wal h.disk okO_nil h.wj h.count h.sum la lc y.l hR hm hes (fun ad e _ => hlo ad e) (fun x hx => List.mem_append.2 (.inl hx)) (fun j hj => ?_)).mono fun e w' hp => op_do (lastOr_grows s y.l).symm hp
    cases j with
    | zero => exact List.mem_append.2 (.inl (by simpa using h.wj.here))
    | succ j => exact List.mem_append.2 (.inr (List.mem_map.2 ⟨j, by simp; omega, rfl⟩))
  | _ => omega
end
end Go.Proofs.YtfgmbjdeimallaaGreatDoor
/- WalPlays: what the walk keeps. -/

namespace Go.Proofs.YtfgmbjdeimallaaGreatDoor
open Go.RowKit Go.Lib

/-- the law's own memory; K: blocks of the disk and the wal; B: bounds the entries' bytes -/
structure PlM (w1 w : World) (nb : Nat) (x : Stp) (ma : Option Addr) (mc : Nat) (ms : List Stp) (K : List Nat) (B : Nat) : Prop where
  now : Blk w nb 57 x.cells
  mem : x ∈ ms
  own : OwnO w 57 5 ma ms.length mc (stps ms)
  ats : ∀ m ∈ ms, m.At w
  offn : nb ∉ K
  offm : ∀ b ∈ blks ma, b ∉ K
  offs : ∀ m ∈ ms, ∀ b ∈ blks m.la, b ∉ K
  ne : nb ∉ blks ma
  keeps : Keeps [] w1 w
  lown : w1.heap.size ≤ nb
  lowm : ∀ b ∈ blks ma, w1.heap.size ≤ b
  lowK : ∀ b ∈ K, w1.heap.size ≤ b ∧ b < w.heap.size
  sums : ∀ m ∈ ms, 20 * entSum m.s.es ≤ 21 * B
/-- what does told, beside it -/
structure PlN (w : World) (nb : Nat) (ma na : Option Addr) (nc : Nat) (ns : List Stp) (K : List Nat) (B : Nat) : Prop where
  sl : Sl w 5 na ns.length nc (stps ns)
  ats : ∀ m ∈ ns, m.At w
  offs : ∀ m ∈ ns, ∀ b ∈ blks m.la, b ∉ K
  offa : ns ≠ [] → ∀ b ∈ blks na, b ∉ K ∧ b ∉ blks ma ∧ b ≠ nb ∧ b < w.heap.size
  sums : ∀ m ∈ ns, 20 * entSum m.s.es ≤ 21 * B
section
variable {w1 w w' : World} {nb : Nat} {x : Stp} {ma na : Option Addr} {mc nc : Nat} {ms ns : List Stp} {K K' : List Nat} {B B' : Nat}
theorem PlM.mono (h : PlM w1 w nb x ma mc ms K B) (hB : B ≤ B') : PlM w1 w nb x ma mc ms K B' :=
  { h with sums := fun m hm => Nat.le_trans (h.sums m hm) (by omega) }
theorem PlM.step (h : PlM w1 w nb x ma mc ms K B) (hk : Keeps K w w') (hK : ∀ b ∈ K', (b ∈ K ∨ w.heap.size ≤ b) ∧ b < w'.heap.size) : PlM w1 w' nb x ma mc ms K' B := by
  have hs := h.keeps.size
  refine ⟨h.now.keep hk h.offn, h.mem, h.own.keep hk h.offm, fun m hm => OwnO.keep (h.ats m hm) hk (h.offs m hm), fun hb => ?_, fun b hb hb2 => ?_, fun m hm b hb hb2 => ?_, h.ne, h.keeps.step hk (fun b hb => .inr (h.lowK b hb).1), h.lown, h.lowm, fun b hb => ⟨?_, (hK b hb).2⟩, h.sums⟩
  · rcases (hK nb hb).1 with h1 | h1
    · exact h.offn h1
    · have := h.now.lt; omega
  · rcases (hK b hb2).1 with h1 | h1
    · exact h.offm b hb h1
    · have := h.own.lt b hb; omega
  · rcases (hK b hb2).1 with h1 | h1
    · exact h.offs m hm b hb h1
    · have := OwnO.lt (h.ats m hm) b hb; omega
  · rcases (hK b hb).1 with h1 | h1
    · exact (h.lowK b h1).1
    · omega
theorem PlM.keep0 (h : PlM w1 w nb x ma mc ms K B) (hk : Keeps [] w w') : PlM w1 w' nb x ma mc ms K B :=
  h.step hk.of_nil (fun b hb => ⟨.inl hb, Nat.lt_of_lt_of_le (h.lowK b hb).2 hk.size⟩)
theorem PlN.step (h : PlN w nb ma na nc ns K B) (hk : Keeps K w w') (hK : ∀ b ∈ K', b ∈ K ∨ w.heap.size ≤ b) : PlN w' nb ma na nc ns K' B := by
  refine ⟨h.sl.keep hk (fun ad e hne => (h.offa (fun h0 => hne (by rw [h0]; rfl)) ad.block (by rw [e]; simp)).1), fun m hm => OwnO.keep (h.ats m hm) hk (h.offs m hm), fun m hm b hb hb2 => ?_, fun hne b hb => ?_, h.sums⟩
  · rcases hK b hb2 with h1 | h1
    · exact h.offs m hm b hb h1
    · have := OwnO.lt (h.ats m hm) b hb; omega
  · obtain ⟨h1, h2, h3, h4⟩ := h.offa hne b hb
    refine ⟨fun hb2 => ?_, h2, h3, Nat.lt_of_lt_of_le h4 hk.size⟩
    rcases hK b hb2 with h5 | h5
    · exact h1 h5
    · omega
theorem PlN.keep0 (h : PlN w nb ma na nc ns K B) (hk : Keeps [] w w') : PlN w' nb ma na nc ns K B := h.step hk.of_nil (fun _ hb => .inl hb)
theorem PlM.stb (h : PlM w1 w nb x ma mc ms K B) : StB w (blks ma) := h.own.kind
/-- what does leaves -/
theorem PlN.of {ls : List Ws} {k : Int} {e : Ending} (h : PlM w1 w nb x ma mc ms K B) (hp : DsPost w x.la ls k e w') (hs : ∀ s ∈ ls, 20 * entSum s.es ≤ 21 * B') :
    ∃ na nc ns, e = .returned (.tuple #[.slice na ns.length nc, .int .i64 k]) ∧ ns.map (·.s) = ls ∧ PlN w' nb ma na nc ns K B' ∧ Keeps [] w w' := by
  obtain ⟨na, nc, ns, rfl, hm, hS, hA, hk, hna⟩ := hp
  refine ⟨na, nc, ns, rfl, hm, ?_, hk⟩
  refine ⟨hS, fun m hm => (hA m hm).1, fun m hm b hb hb2 => ?_, fun hne b hb => ?_, fun m hm2 => hs m.s (by rw [← hm]; exact List.mem_map.2 ⟨m, hm2, rfl⟩)⟩
  · rcases (hA m hm).2 b hb with h1 | h1
    · exact h.offs x h.mem b h1 hb2
    · have := (h.lowK b hb2).2; omega
  · cases na with
    | none => simp at hb
    | some ad =>
      simp only [blks, List.mem_singleton] at hb
      subst hb
      have h1 := hna ad rfl
      have h2 := hS.lt rfl (by
        cases ns with
        | nil => exact absurd rfl hne
        | cons m r => simp [stps])
      refine ⟨fun hb2 => ?_, fun hb2 => ?_, ?_, h2⟩
      · have := (h.lowK _ hb2).2; omega
      · have := h.own.lt _ hb2; omega
      · have := h.now.lt; omega
/-- may grows -/
theorem PlM.grow {a' : Option Addr} {c' : Nat} (h : PlM w1 w nb x ma mc ms K B) (hN : PlN w nb ma na nc ns K B') (hB : B ≤ B') (hO : OwnO w' 57 5 a' (ms.length + ns.length) c' (stps ms ++ stps ns)) (hk : Keeps (blks ma) w w') (hb : ∀ b ∈ blks a', b ∈ blks ma ∨ w.heap.size ≤ b) :
    PlM w1 w' nb x a' c' (ms ++ ns) K B' ∧ PlN w' nb a' na nc ns K B' := by
  have hSt := h.stb
  have hat : ∀ m : Stp, m.At w → m.At w' := fun m hm => OwnO.keep hm hk (fun b hb1 hb2 => by
    obtain ⟨cs, hcs⟩ := hSt b hb2
    exact OwnO.off hm hcs (by decide) hb1)
  refine ⟨⟨h.now.keep hk h.ne, List.mem_append.2 (.inl h.mem), by rw [List.length_append, stps_append]; exact hO, fun m hm => ?_, h.offn, fun b hb1 hb2 => ?_, fun m hm => ?_, fun hb1 => ?_, h.keeps.step hk (fun b hb => .inr (h.lowm b hb)), h.lown, fun b hb1 => ?_, fun b hb1 => ⟨(h.lowK b hb1).1, Nat.lt_of_lt_of_le (h.lowK b hb1).2 hk.size⟩, fun m hm => ?_⟩, ⟨?_, fun m hm => hat m (hN.ats m hm), hN.offs, fun hne b hb1 => ?_, hN.sums⟩⟩
  · rcases List.mem_append.1 hm with hm | hm
    · exact hat m (h.ats m hm)
    · exact hat m (hN.ats m hm)
  · rcases hb b hb1 with h1 | h1
    · exact h.offm b h1 hb2
    · have := (h.lowK b hb2).2; omega
  · rcases List.mem_append.1 hm with hm | hm
    · exact h.offs m hm
    · exact hN.offs m hm
  · rcases hb nb hb1 with h1 | h1
    · exact h.ne h1
    · have := h.now.lt; omega
  · rcases hb b hb1 with h1 | h1
    · exact h.lowm b h1
    · have := h.keeps.size; omega
  · rcases List.mem_append.1 hm with hm | hm
    · exact Nat.le_trans (h.sums m hm) (by omega)
    · exact hN.sums m hm
  · exact hN.sl.keep hk (fun ad e hne => (hN.offa (fun h0 => hne (by rw [h0]; rfl)) ad.block (by rw [e]; simp)).2.1)
  · obtain ⟨h1, h2, h3, h4⟩ := hN.offa hne b hb1
    refine ⟨h1, fun hb2 => ?_, h3, Nat.lt_of_lt_of_le h4 hk.size⟩
    rcases hb b hb2 with h5 | h5
    · exact h2 h5
    · omega
/-- another state is the one -/
theorem PlM.set {x' : Stp} (h : PlM w1 w nb x ma mc ms K B) (hx : x' ∈ ms) (hB : Blk w' nb 57 x'.cells) (hk : Keeps [nb] w w') : PlM w1 w' nb x' ma mc ms K B :=
  ⟨hB, hx, h.own.keep hk (fun b hb => by simp; rintro rfl; exact h.ne hb), fun m hm => OwnO.keep (h.ats m hm) hk (fun b hb => by simp; rintro rfl; exact OwnO.off (h.ats m hm) h.now (by decide) hb), h.offn, h.offm, h.offs, h.ne,
    h.keeps.step hk (fun b hb => .inr (by simp at hb; subst hb; exact h.lown)), h.lown, h.lowm, fun b hb => ⟨(h.lowK b hb).1, Nat.lt_of_lt_of_le (h.lowK b hb).2 hk.size⟩, h.sums⟩
/-- it alone -/
theorem PlM.one (h : PlM w1 w nb x ma mc ms K B) : PlM w1 (w.alloc (.cells x.cells 57)) nb x (some ⟨w.heap.size, 0, none⟩) 1 [x] K B := by
  have hk := (Keeps.refl [] w).alloc (.cells x.cells 57)
  have h2 := h.keep0 hk
  have hs := h.keeps.size
  refine ⟨h2.now, by simp, ?_, fun m hm => ?_, h2.offn, fun b hb hb2 => ?_, fun m hm => ?_, ?_, h2.keeps, h2.lown, fun b hb => ?_, h2.lowK, fun m hm => ?_⟩
  · refine .inr ⟨w.heap.size, 0, x.cells, rfl, Blk.fresh w 57 x.cells, Nat.le_refl _, by unfold maxLen; omega, by simp, by simp [stps], by simp [stps]⟩
  · simp at hm
    subst hm
    exact h2.ats _ h.mem
  · simp at hb
    subst hb
    have := (h.lowK _ hb2).2
    omega
  · simp at hm
    subst hm
    exact h2.offs _ h.mem
  · have := h.now.lt
    simp
    omega
  · simp at hb
    omega
  · simp at hm
    subst hm
    exact h.sums _ h.mem
theorem stps_at {l : List Stp} {k : Nat} {m : Stp} (h : l[k]? = some m) {b o c n : Nat} (hS : Sl w 5 (some ⟨b, o, none⟩) n c (stps l)) : ∀ (j : Nat) v, m.cells.toList[j]? = some v → w.cell? ⟨b, o + k * 5 + j, none⟩ = some v := by
  intro j v hj
  have hj5 : j < 5 := by
    have := (List.getElem?_eq_some_iff.1 hj).1
    simpa using this
  have := hS.cell _ rfl (k * 5 + j) v ((flat_at (fun x : Stp => x.cells.toList) 5 (fun _ => rfl) l k j m h hj5).trans hj)
  simpa [Nat.add_assoc] using this
end
end Go.Proofs.YtfgmbjdeimallaaGreatDoor
/- WalPlays: the walk's states, and what turns one into the other. -/

namespace Go.Proofs.YtfgmbjdeimallaaGreatDoor
open Go.RowKit Go.Lib

/-- the wal is open -/
def PlUp (w1 w : World) (wb db nb : Nat) (x : Stp) (ma : Option Addr) (mc : Nat) (ms : List Stp) (X : List Nat) (B n : Nat) : Prop :=
  ∃ L E d z, Disk w L db d ∧ WalAt w wb db x.s z E ∧ WJ [] d x.s z (ms.map (·.s)) ∧ d.count ≤ n ∧ PlM w1 w nb x ma mc ms (wb :: (L ++ E)) B ∧ ∀ b ∈ X, b ∉ wb :: (L ++ E)
/-- the disk is down, or falls -/
def PlDn (w1 w : World) (db nb : Nat) (x : Stp) (ma : Option Addr) (mc : Nat) (ms : List Stp) (X : List Nat) (B n : Nat) : Prop :=
  ∃ L d, Disk w L db d ∧ WF [] d (ms.map (·.s)) ∧ d.count ≤ n ∧ PlM w1 w nb x ma mc ms L B ∧ ∀ b ∈ X, b ∉ L
/-- behind a call of the wal, ahead of what the law does with it -/
def MidUp (w1 w : World) (wb db nb : Nat) (x : Stp) (ma : Option Addr) (mc : Nat) (ms : List Stp) (na : Option Addr) (nc : Nat) (ns : List Stp) (X : List Nat) (B n : Nat) : Prop :=
  ∃ L E d z, Disk w L db d ∧ WalAt w wb db (lastOr (ns.map (·.s)) x.s) z E ∧ WJ [] d (lastOr (ns.map (·.s)) x.s) z (ms.map (·.s) ++ ns.map (·.s)) ∧ d.count ≤ n ∧ PlM w1 w nb x ma mc ms (wb :: (L ++ E)) B ∧ PlN w nb ma na nc ns (wb :: (L ++ E)) B ∧ ∀ b ∈ X, b ∉ wb :: (L ++ E)
def MidDn (w1 w : World) (db nb : Nat) (x : Stp) (ma : Option Addr) (mc : Nat) (ms : List Stp) (na : Option Addr) (nc : Nat) (ns : List Stp) (X : List Nat) (B n : Nat) : Prop :=
  ∃ L d, Disk w L db d ∧ WF [] d (ms.map (·.s) ++ ns.map (·.s)) ∧ d.count ≤ n ∧ PlM w1 w nb x ma mc ms L B ∧ PlN w nb ma na nc ns L B ∧ ∀ b ∈ X, b ∉ L
/-- the same, may grown -/
def Mid2 (w1 w : World) (wb db nb : Nat) (x : Stp) (ma : Option Addr) (mc : Nat) (ms : List Stp) (na : Option Addr) (nc : Nat) (ns : List Stp) (X : List Nat) (B n : Nat) : Prop :=
  ∃ L E d z, Disk w L db d ∧ WalAt w wb db (lastOr (ns.map (·.s)) x.s) z E ∧ WJ [] d (lastOr (ns.map (·.s)) x.s) z ((ms ++ ns).map (·.s)) ∧ d.count ≤ n ∧ PlM w1 w nb x ma mc (ms ++ ns) (wb :: (L ++ E)) B ∧ PlN w nb ma na nc ns (wb :: (L ++ E)) B ∧ ∀ b ∈ X, b ∉ wb :: (L ++ E)
section
variable {w1 w w' : World} {wb db nb : Nat} {x : Stp} {ma na : Option Addr} {mc nc : Nat} {ms ns : List Stp} {X : List Nat} {B B' n n' : Nat}
theorem PlM.keepsOff {K : List Nat} (h : PlM w1 w nb x ma mc ms K B) {L E : List Nat} (hK : K = wb :: (L ++ E)) {s : Ws} {z : Int} {d : DSt} {J : List Nat} (hW : WalAt w wb db s z E) (hD : Disk w L db d) (hk : Keeps J w w') (hJ : ∀ b ∈ J, b ∉ K) : WalAt w' wb db s z E ∧ Disk w' L db d := by
  subst hK
  refine ⟨hW.keep hk (fun hb => hJ _ hb (.head _)) (fun b hb hb2 => hJ _ hb2 (.tail _ (List.mem_append.2 (.inr hb)))), hD.keep hk (fun b hb hb2 => hJ _ hb2 (.tail _ (List.mem_append.2 (.inl hb))))⟩
theorem PlUp.keep0 (h : PlUp w1 w wb db nb x ma mc ms X B n) (hk : Keeps [] w w') : PlUp w1 w' wb db nb x ma mc ms X B n := by
  obtain ⟨L, E, d, z, hD, hW, hJ, hc, hM, hX⟩ := h
  exact ⟨L, E, d, z, hD.keep0 hk, hW.keep0 hk, hJ, hc, hM.keep0 hk, hX⟩
theorem PlDn.keep0 (h : PlDn w1 w db nb x ma mc ms X B n) (hk : Keeps [] w w') : PlDn w1 w' db nb x ma mc ms X B n := by
  obtain ⟨L, d, hD, hJ, hc, hM, hX⟩ := h
  exact ⟨L, d, hD.keep0 hk, hJ, hc, hM.keep0 hk, hX⟩
theorem MidUp.keep0 (h : MidUp w1 w wb db nb x ma mc ms na nc ns X B n) (hk : Keeps [] w w') : MidUp w1 w' wb db nb x ma mc ms na nc ns X B n := by
  obtain ⟨L, E, d, z, hD, hW, hJ, hc, hM, hN, hX⟩ := h
  exact ⟨L, E, d, z, hD.keep0 hk, hW.keep0 hk, hJ, hc, hM.keep0 hk, hN.keep0 hk, hX⟩
theorem MidDn.keep0 (h : MidDn w1 w db nb x ma mc ms na nc ns X B n) (hk : Keeps [] w w') : MidDn w1 w' db nb x ma mc ms na nc ns X B n := by
  obtain ⟨L, d, hD, hJ, hc, hM, hN, hX⟩ := h
  exact ⟨L, d, hD.keep0 hk, hJ, hc, hM.keep0 hk, hN.keep0 hk, hX⟩
theorem PlUp.more (h : PlUp w1 w wb db nb x ma mc ms X B n) (hB : B ≤ B') (hn : n ≤ n') : PlUp w1 w wb db nb x ma mc ms X B' n' := by
  obtain ⟨L, E, d, z, hD, hW, hJ, hc, hM, hX⟩ := h
  exact ⟨L, E, d, z, hD, hW, hJ, by omega, hM.mono hB, hX⟩
/-- a block that is made now is none of the wal's -/
theorem PlUp.new {b : Nat} (h : PlUp w1 w wb db nb x ma mc ms X B n) (hk : Keeps [] w w') (hb : w.heap.size ≤ b) : PlUp w1 w' wb db nb x ma mc ms (b :: X) B n := by
  obtain ⟨L, E, d, z, hD, hW, hJ, hc, hM, hX⟩ := h
  refine ⟨L, E, d, z, hD.keep0 hk, hW.keep0 hk, hJ, hc, hM.keep0 hk, fun c hc' hc2 => ?_⟩
  rcases List.mem_cons.1 hc' with rfl | h1
  · have := (hM.lowK _ hc2).2; omega
  · exact hX c h1 hc2
theorem PlUp.less (h : PlUp w1 w wb db nb x ma mc ms X B n) : PlUp w1 w wb db nb x ma mc ms [] B n := by
  obtain ⟨L, E, d, z, hD, hW, hJ, hc, hM, hX⟩ := h
  exact ⟨L, E, d, z, hD, hW, hJ, hc, hM, by simp⟩
theorem PlUp.down (h : PlUp w1 w wb db nb x ma mc ms X B n) : PlDn w1 w db nb x ma mc ms X B n := by
  obtain ⟨L, E, d, z, hD, hW, hJ, hc, hM, hX⟩ := h
  refine ⟨L, d, hD, hJ.wf, hc, hM.step (Keeps.refl _ _) (fun b hb => ?_), fun b hb hb2 => hX b hb (.tail _ (List.mem_append.2 (.inl hb2)))⟩
  have h1 : b ∈ wb :: (L ++ E) := .tail _ (List.mem_append.2 (.inl hb))
  exact ⟨.inl h1, (hM.lowK b h1).2⟩
/-- a call of the wal is over -/
theorem mid_of {L E : List Nat} {d : DSt} {nl : List Ws} {k : Int} {v : Value} (hc : d.count ≤ n) (hM : PlM w1 w nb x ma mc ms (wb :: (L ++ E)) B) (hN : PlN w nb ma na nc ns (wb :: (L ++ E)) B) (hX : ∀ b ∈ X, b ∉ wb :: (L ++ E) ∧ b < w.heap.size) (hnl : ns.map (·.s) = nl) (h : OqRel w wb db L E d x.s (ms.map (·.s)) nl k v w') :
    (((v = .nilIface ∧ k = 0) ∨ (BadEv w' v k ∧ ns = [])) ∧ MidUp w1 w' wb db nb x ma mc ms na nc ns X B (n + 4)) ∨ (v = (Value.iface 75 (.int .i64 32)) ∧ k = 0 ∧ MidDn w1 w' db nb x ma mc ms na nc ns X B (n + 4)) := by
  subst hnl
  obtain ⟨L', d', hD', hct, hk, hL, hh⟩ := h
  rcases hh with ⟨hv, E', z', hW', hJ', hE'⟩ | ⟨hv, hk0, hF⟩
  · have hK : ∀ b ∈ wb :: (L' ++ E'), (b ∈ wb :: (L ++ E) ∨ w.heap.size ≤ b) ∧ b < w'.heap.size := fun b hb => by
      rcases List.mem_cons.1 hb with rfl | hb
      · exact ⟨.inl (.head _), hW'.lt⟩
      · rcases List.mem_append.1 hb with hb | hb
        · exact ⟨(hL b hb).imp (fun h => .tail _ (List.mem_append.2 (.inl h))) id, hD'.lt b hb⟩
        · exact ⟨(hE' b hb).imp (fun h => .tail _ (List.mem_append.2 (.inr h))) id, hW'.ltE b hb⟩
    refine .inl ⟨hv.imp id (fun h => ⟨h.1, by simpa using h.2⟩), L', E', d', z', hD', hW', hJ', by omega, hM.step hk hK, hN.step hk (fun b hb => (hK b hb).1), fun b hb hb2 => ?_⟩
    rcases (hK b hb2).1 with h1 | h1
    · exact (hX b hb).1 h1
    · have := (hX b hb).2; omega
  · have hK : ∀ b ∈ L', (b ∈ wb :: (L ++ E) ∨ w.heap.size ≤ b) ∧ b < w'.heap.size := fun b hb => ⟨(hL b hb).imp (fun h => .tail _ (List.mem_append.2 (.inl h))) id, hD'.lt b hb⟩
    refine .inr ⟨hv, hk0, L', d', hD', hF, by omega, hM.step hk hK, hN.step hk (fun b hb => (hK b hb).1), fun b hb hb2 => ?_⟩
    rcases (hK b hb2).1 with h1 | h1
    · exact (hX b hb).1 h1
    · have := (hX b hb).2; omega
section
variable {a' : Option Addr} {c' : Nat} (hO : OwnO w' 57 5 a' (ms.length + ns.length) c' (stps ms ++ stps ns)) (hk : Keeps (blks ma) w w') (hb : ∀ b ∈ blks a', b ∈ blks ma ∨ w.heap.size ≤ b)
include hO hk hb
theorem MidUp.grow (h : MidUp w1 w wb db nb x ma mc ms na nc ns X B n) : Mid2 w1 w' wb db nb x a' c' ms na nc ns X B n := by
  obtain ⟨L, E, d, z, hD, hW, hJ, hc, hM, hN, hX⟩ := h
  obtain ⟨h1, h2⟩ := hM.grow hN (Nat.le_refl _) hO hk hb
  obtain ⟨h3, h4⟩ := hM.keepsOff rfl hW hD hk hM.offm
  exact ⟨L, E, d, z, h4, h3, by rw [List.map_append]; exact hJ, hc, h1, h2, hX⟩
theorem MidDn.grow (h : MidDn w1 w db nb x ma mc ms na nc ns X B n) : PlDn w1 w' db nb x a' c' (ms ++ ns) X B n := by
  obtain ⟨L, d, hD, hJ, hc, hM, hN, hX⟩ := h
  obtain ⟨h1, h2⟩ := hM.grow hN (Nat.le_refl _) hO hk hb
  exact ⟨L, d, hD.keep hk (fun b hb hb2 => hM.offm b hb2 hb), by rw [List.map_append]; exact hJ, hc, h1, hX⟩
end
theorem Mid2.same (h : Mid2 w1 w wb db nb x ma mc ms na nc [] X B n) : PlUp w1 w wb db nb x ma mc (ms ++ []) X B n := by
  obtain ⟨L, E, d, z, hD, hW, hJ, hc, hM, hN, hX⟩ := h
  exact ⟨L, E, d, z, hD, hW, hJ, hc, hM, hX⟩
theorem Mid2.set {x' : Stp} (h : Mid2 w1 w wb db nb x ma mc ms na nc ns X B n) (hx : ns.getLast? = some x') (hB : Blk w' nb 57 x'.cells) (hk : Keeps [nb] w w') : PlUp w1 w' wb db nb x' ma mc (ms ++ ns) X B n := by
  obtain ⟨L, E, d, z, hD, hW, hJ, hc, hM, hN, hX⟩ := h
  have hl : lastOr (ns.map (·.s)) x.s = x'.s := by simp [lastOr, List.getLast?_map, hx]
  rw [hl] at hW hJ
  obtain ⟨h3, h4⟩ := hM.keepsOff rfl hW hD hk (fun b hb => by simp at hb; subst hb; exact hM.offn)
  exact ⟨L, E, d, z, h4, h3, hJ, hc, hM.set (List.mem_append.2 (.inr (List.mem_of_getLast? hx))) hB hk, hX⟩
theorem Mid2.reads (h : Mid2 w1 w wb db nb x ma mc ms na nc ns X B n) : Blk w nb 57 x.cells ∧ Sl w 5 na ns.length nc (stps ns) := by
  obtain ⟨L, E, d, z, hD, hW, hJ, hc, hM, hN, hX⟩ := h
  exact ⟨hM.now, hN.sl⟩
/-- Sync -/
theorem PlUp.sync {e : Ending} {L E : List Nat} {d : DSt} {z : Int} (hc : d.count ≤ n) (hM : PlM w1 w nb x ma mc ms (wb :: (L ++ E)) B) (hX : ∀ b ∈ X, b ∉ wb :: (L ++ E) ∧ b < w.heap.size) (h : SyP w L E wb db [] d x.s z (ms.map (·.s)) e w') :
    ∃ v, e = .returned v ∧ ((v = .nilIface ∧ ∃ L' E' d', Disk w' L' db d' ∧ WalAt w' wb db x.s z E' ∧ WJ [] d' x.s z [x.s] ∧ d'.count ≤ n + 4 ∧ PlM w1 w' nb x ma mc ms (wb :: (L' ++ E')) B ∧ ∀ b ∈ X, b ∉ wb :: (L' ++ E')) ∨ (v = (Value.iface 75 (.int .i64 32)) ∧ PlDn w1 w' db nb x ma mc ms X B (n + 4))) := by
  obtain ⟨v, L', E', d', r, rfl, hE, hD', hW', hk, hL, hE', hct, _, hh⟩ := h
  refine ⟨v, rfl, ?_⟩
  rcases hh with ⟨rfl, hJ, _⟩ | ⟨rfl, hF, _⟩
  · have hK : ∀ b ∈ wb :: (L' ++ E'), (b ∈ wb :: (L ++ E) ∨ w.heap.size ≤ b) ∧ b < w'.heap.size := fun b hb => by
      rcases List.mem_cons.1 hb with rfl | hb
      · exact ⟨.inl (.head _), hW'.lt⟩
      · rcases List.mem_append.1 hb with hb | hb
        · exact ⟨(hL b hb).imp (fun h => .tail _ (List.mem_append.2 (.inl h))) id, hD'.lt b hb⟩
        · exact ⟨(hE' b hb).imp (fun h => .tail _ (List.mem_append.2 (.inr h))) id, hW'.ltE b hb⟩
    refine .inl ⟨hE, L', E', d', hD', hW', hJ, by omega, hM.step hk hK, fun b hb hb2 => ?_⟩
    rcases (hK b hb2).1 with h1 | h1
    · exact (hX b hb).1 h1
    · have := (hX b hb).2; omega
  · have hK : ∀ b ∈ L', (b ∈ wb :: (L ++ E) ∨ w.heap.size ≤ b) ∧ b < w'.heap.size := fun b hb => ⟨(hL b hb).imp (fun h => .tail _ (List.mem_append.2 (.inl h))) id, hD'.lt b hb⟩
    refine .inr ⟨hE, L', d', hD', hF, by omega, hM.step hk hK, fun b hb hb2 => ?_⟩
    rcases (hK b hb2).1 with h1 | h1
    · exact (hX b hb).1 h1
    · have := (hX b hb).2; omega
/-- Open behind a crash: the wal tells a state of may -/
def Reop (w1 w : World) (wb db nb : Nat) (sW : Ws) (x : Stp) (ma : Option Addr) (mc : Nat) (ms : List Stp) (X : List Nat) (B n : Nat) : Prop :=
  ∃ L E d z, Disk w L db d ∧ WalAt w wb db sW z E ∧ WJ [] d sW z [sW] ∧ d.count ≤ n ∧ PlM w1 w nb x ma mc ms (wb :: (L ++ E)) B ∧ sW ∈ ms.map (·.s) ∧ ∀ b ∈ X, b ∉ wb :: (L ++ E)
theorem Reop.keep0 {sW : Ws} (h : Reop w1 w wb db nb sW x ma mc ms X B n) (hk : Keeps [] w w') : Reop w1 w' wb db nb sW x ma mc ms X B n := by
  obtain ⟨L, E, d, z, hD, hW, hJ, hc, hM, hm, hX⟩ := h
  exact ⟨L, E, d, z, hD.keep0 hk, hW.keep0 hk, hJ, hc, hM.keep0 hk, hm, hX⟩
theorem Reop.set {sW : Ws} {x' : Stp} (h : Reop w1 w wb db nb sW x ma mc ms X B n) (hx : x' ∈ ms) (hB : Blk w' nb 57 x'.cells) (hk : Keeps [nb] w w') : Reop w1 w' wb db nb sW x' ma mc ms X B n := by
  obtain ⟨L, E, d, z, hD, hW, hJ, hc, hM, hm, hX⟩ := h
  obtain ⟨h3, h4⟩ := hM.keepsOff rfl hW hD hk (fun b hb => by simp at hb; subst hb; exact hM.offn)
  exact ⟨L, E, d, z, h4, h3, hJ, hc, hM.set hx hB hk, hm, hX⟩
theorem Reop.up {sW : Ws} (h : Reop w1 w wb db nb sW x ma mc ms X B n) (hx : x.s = sW) : PlUp w1 (w.alloc (.cells x.cells 57)) wb db nb x (some ⟨w.heap.size, 0, none⟩) 1 [x] X B n := by
  subst hx
  obtain ⟨L, E, d, z, hD, hW, hJ, hc, hM, hm, hX⟩ := h
  have hk := (Keeps.refl [] w).alloc (.cells x.cells 57)
  exact ⟨L, E, d, z, hD.keep0 hk, hW.keep0 hk, hJ, hc, hM.one, hX⟩
theorem reop {e : Ending} {L : List Nat} {d : DSt} (hc : d.count ≤ n) (hh : d.halt = -1) (hM : PlM w1 w nb x ma mc ms L B) (hX : ∀ b ∈ X, b ∉ L ∧ b < w.heap.size) (h : OpenP w L db [] d (ms.map (·.s)) e w') :
    ∃ wb sW, e = .returned (.tuple #[.pointer (some ⟨wb, 0, none⟩), .nilIface]) ∧ Reop w1 w' wb db nb sW x ma mc ms X B (n + 3) := by
  obtain ⟨pv, ev, L', d', r, rfl, hE, hD', hk, hL, hct, hr, h1⟩ := h
  rcases h1 with ⟨rfl, wb, E, s, z, rfl, hW, hwb, hE2, hs, hJ, h2⟩ | ⟨rfl, _, h2⟩
  · obtain rfl : ev = .nilIface := hE
    have hK : ∀ b ∈ wb :: (L' ++ E), (b ∈ L ∨ w.heap.size ≤ b) ∧ b < w'.heap.size := fun b hb => by
      rcases List.mem_cons.1 hb with rfl | hb
      · exact ⟨.inr hwb, hW.lt⟩
      · rcases List.mem_append.1 hb with hb | hb
        · exact ⟨hL b hb, hD'.lt b hb⟩
        · exact ⟨.inr (hE2 b hb), hW.ltE b hb⟩
    refine ⟨wb, s, rfl, L', E, d', z, hD', hW, hJ, by omega, hM.step hk hK, hs, fun b hb hb2 => ?_⟩
    rcases (hK b hb2).1 with h1 | h1
    · exact (hX b hb).1 h1
    · have := (hX b hb).2; omega
  · exact absurd hh h2
/-- the first state -/
theorem PlM.init {K : List Nat} (hk : Keeps [] w1 w) (hK : ∀ b ∈ K, w1.heap.size ≤ b ∧ b < w.heap.size) :
    PlM w1 ((w.alloc (.cells (Stp.cells ⟨Ws.nil, none, 0⟩) 57)).alloc (.cells (Stp.cells ⟨Ws.nil, none, 0⟩) 57)) w.heap.size ⟨Ws.nil, none, 0⟩ (some ⟨w.heap.size + 1, 0, none⟩) 1 [⟨Ws.nil, none, 0⟩] K 0 := by
  obtain ⟨C, hC⟩ : ∃ C, C = Stp.cells ⟨Ws.nil, none, 0⟩ := ⟨_, rfl⟩
  have hk1 := hk.alloc (.cells C 57)
  have hk2 := hk1.alloc (.cells C 57)
  have hs := hk.size
  have e1 : (w.alloc (.cells C 57)).heap.size = w.heap.size + 1 := by simp
  have hB1 := (Blk.fresh w 57 C).alloc (.cells C 57)
  have hB2 := Blk.fresh (w.alloc (.cells C 57)) 57 C
  rw [e1] at hB2
  rw [← hC]
  refine ⟨by rw [hC] at hB1 ⊢; exact hB1, by simp, ?_, fun m hm => ?_, fun hb => ?_, fun b hb hb2 => ?_, fun m hm => ?_, ?_, hk2, hs, fun b hb => ?_, fun b hb => ⟨(hK b hb).1, ?_⟩, fun m hm => ?_⟩
  · refine .inr ⟨w.heap.size + 1, 0, C, rfl, hB2, Nat.le_refl _, by unfold maxLen; omega, by rw [hC]; simp, by simp [stps], by rw [hC]; simp [stps]⟩
  · simp at hm
    subst hm
    exact OwnO.nil _ _ _
  · have := (hK _ hb).2
    omega
  · simp at hb
    subst hb
    have := (hK _ hb2).2
    omega
  · simp at hm
    subst hm
    simp
  · simp
  · simp at hb
    omega
  · have := (hK b hb).2
    simp
    omega
  · simp at hm
    subst hm
    simp [entSum]
end
end Go.Proofs.YtfgmbjdeimallaaGreatDoor
/- WalPlays: what the arms share. -/

namespace Go.Proofs.YtfgmbjdeimallaaGreatDoor
open Go.RowKit Go.Lib

theorem Tryz.sizeWp : (Tryz.prog.info? 33).map (·.size) = some 7 := by kernel_rfl
theorem sumW_take (l : List Wp) (k : Nat) : sumW (l.take k) ≤ sumW l := by
  have h : sumW l = sumW (l.take k) + sumW (l.drop k) := by
    unfold sumW
    rw [← List.sum_append, ← List.map_append, List.take_append_drop]
  omega
theorem entSum_E (l : List Ent) : 20 * entSum l ≤ 21 * sumE l := by
  induction l with
  | nil => simp [entSum, sumE]
  | cons x l ih => simp only [entSum, sumE, List.map_cons, List.sum_cons] at ih ⊢; omega
theorem entSum_len (l : List Ent) : l.length ≤ entSum l := by
  induction l with
  | nil => simp
  | cons x l ih => simp only [entSum, List.map_cons, List.sum_cons, List.length_cons] at ih ⊢; omega
/-- what does tells stays small -/
theorem DoesR.sums {s : Ws} {y : Wp} {nl : List Ws} {k : Int} {B : Nat} (h : DoesR s y nl k) (hs : 20 * entSum s.es ≤ 21 * B) : ∀ t ∈ nl, 20 * entSum t.es ≤ 21 * (B + sumE y.l) := by
  intro t ht
  cases h with
  | hardBad | appBad | cutBad | dropBad => simp at ht
  | hard => simp at ht; subst ht; show 20 * entSum s.es ≤ _; omega
  | cut => simp at ht; subst ht; have := entSum_take s.es (y.ix - s.base - 1); show 20 * entSum (s.es.take _) ≤ _; omega
  | drop => simp at ht; subst ht; have := entSum_drop s.es (y.ix - s.base); show 20 * entSum (s.es.drop _) ≤ _; omega
  | app =>
    obtain ⟨j, _, rfl⟩ := List.mem_map.1 ht
    have h1 := entSum_append s.es (y.l.take (j + 1))
    have h2 := entSum_E (y.l.take (j + 1))
    have h3 := sumE_take y.l (j + 1)
    show 20 * entSum (s.es ++ _) ≤ _
    omega
theorem DoesR.few {s : Ws} {y : Wp} {nl : List Ws} {k : Int} (h : DoesR s y nl k) (hl : y.l.length ≤ 12) : nl.length ≤ 12 := by
  cases h with
  | app => simpa [grows] using hl
  | _ => simp
theorem OqRel.base {w w2 w' : World} {wb db : Nat} {L E : List Nat} {d : DSt} {s : Ws} {may nl : List Ws} {k : Int} {v : Value} (hk : Keeps [] w w2) (h : OqRel w2 wb db L E d s may nl k v w') : OqRel w wb db L E d s may nl k v w' := by
  obtain ⟨L', d', hD, hc, hk2, hL, hh⟩ := h
  have hs := hk.size
  refine ⟨L', d', hD, hc, hk.of_nil.trans hk2, fun b hb => (hL b hb).imp id (fun h => Nat.le_trans hs h), hh.imp ?_ id⟩
  rintro ⟨hv, E', z', h1, h2, h3⟩
  exact ⟨hv, E', z', h1, h2, fun b hb => (h3 b hb).imp id (fun h => Nat.le_trans hs h)⟩
/-- behind the switch -/
def SwRel (w1 w : World) (wb db nb sb : Nat) (wh : Int) (y : Wp) (B n M : Nat) (v5 v7 : Value) : Prop :=
  ∃ (x : Stp) (ma : Option Addr) (mc : Nat) (ms : List Stp), v7 = .slice ma ms.length mc ∧ ms.length ≤ M ∧ Blk w sb 33 #[.int .i64 wh, .int .i64 y.n, .int .u64 (y.ix : Nat), .int .u64 (y.tm : Nat), .int .i64 y.vote, .slice y.la y.l.length y.lc, .slice y.ka y.keep.length y.kc] ∧ (((v5 = .nilIface ∨ ∃ k, BadEv w v5 k) ∧ PlUp w1 w wb db nb x ma mc ms [sb] B n) ∨ (v5 = (Value.iface 75 (.int .i64 32)) ∧ PlDn w1 w db nb x ma mc ms [sb] B n))
/-- the block of that number -/
def atBlock (n : Nat) : Code → Option Code
  | .block m c => if m = n then some (.block m c) else atBlock n c
  | .loop c => atBlock n c
  | .seq a b => match atBlock n a with
    | some c => some c
    | none => atBlock n b
  | .scope c => atBlock n c
  | .cond _ a b => match atBlock n a with
    | some c => some c
    | none => atBlock n b
  | _ => none
/-- the law's switch -/
noncomputable def plSw : Code := (Tryz.f4.body.bind (atBlock 2)).getD .skip
theorem PlUp.keepsW {w1 w : World} {wb db nb : Nat} {x : Stp} {ma : Option Addr} {mc : Nat} {ms : List Stp} {X : List Nat} {B n : Nat} (h : PlUp w1 w wb db nb x ma mc ms X B n) : Keeps [] w1 w := by
  obtain ⟨L, E, d, z, h1, h2, h3, h4, h5, h6⟩ := h
  exact h5.keeps
end Go.Proofs.YtfgmbjdeimallaaGreatDoor
