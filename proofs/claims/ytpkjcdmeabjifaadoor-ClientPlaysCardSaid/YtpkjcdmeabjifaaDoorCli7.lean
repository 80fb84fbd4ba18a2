/- The client's methods, one contract each: Recv, what it takes. -/
import Derived.Test.YtpkjcdmeabjifaaDoorCli5

namespace Go.Proofs.YtpkjcdmeabjifaaDoor
open Go.RowKit

set_option maxRecDepth 100000 in
set_option maxHeartbeats 2000000 in
theorem recv_ok (b : Nat) (num n tgt seq : Int) (sql : ByteArray) (wt : Bool) (tk rs rc : Int) (cols rows : Option Addr × Nat × Nat) (cnt idx : Int) (sm : Bool) (mk mf mt mterm mix mlt : Int) (ment : Option Addr × Nat × Nat) (mcm mrd : Int) (mok : Bool) (moff : Int) (mdat : Option Addr × Nat × Nat) (mdone : Bool) (mcl msq : Int) (msql : ByteArray) (mrs mrc : Int) (mcols mrows : Option Addr × Nat × Nat) (mcnt mridx mh : Int) (w : World) (h0 : 0 ≤ num) (h1 : num < 8) (hwt : wt = true) (hk : mk = 8) (ht : mt = 100 + num) (hq : msq = seq) (ho : mok = true) (hB : Blk w b 73 #[.int .i64 (num), .int .i64 (n), .int .i64 (tgt), .int .u64 (seq), .string (sql), .bool (wt), .int .i64 (tk), .int .u64 (rs), .int .i64 (rc), .slice (cols).1 (cols).2.1 (cols).2.2, .slice (rows).1 (rows).2.1 (rows).2.2, .int .i64 (cnt), .int .u64 (idx), .bool (sm)]) :
    Calls Tryd.prog 9 #[.pointer (some ⟨b, 0, none⟩), .agg #[.int .i64 mk, .int .i64 mf, .int .i64 mt, .int .u64 mterm, .int .u64 mix, .int .u64 mlt, .slice ment.1 ment.2.1 ment.2.2, .int .u64 mcm, .int .u64 mrd, .bool mok, .int .i64 moff, .slice mdat.1 mdat.2.1 mdat.2.2, .bool mdone, .int .u64 mcl, .int .u64 msq, .string msql, .int .u64 mrs, .int .i64 mrc, .slice mcols.1 mcols.2.1 mcols.2.2, .slice mrows.1 mrows.2.1 mrows.2.2, .int .i64 mcnt, .int .u64 mridx, .int .i64 mh]] w fun e w' => e = .returned (.tuple #[.agg #[.int .i64 0, .int .i64 0, .int .i64 0, .int .u64 0, .int .u64 0, .int .u64 0, .slice none 0 0, .int .u64 0, .int .u64 0, .bool false, .int .i64 0, .slice none 0 0, .bool false, .int .u64 0, .int .u64 0, .string ⟨#[]⟩, .int .u64 0, .int .i64 0, .slice none 0 0, .slice none 0 0, .int .i64 0, .int .u64 0, .int .i64 0], .bool false, .bool true]) ∧
      Blk w' b 73 #[.int .i64 (num), .int .i64 (n), .int .i64 (tgt), .int .u64 (seq), .string (sql), .bool (false), .int .i64 (tk), .int .u64 (mrs), .int .i64 (mrc), .slice (mcols).1 (mcols).2.1 (mcols).2.2, .slice (mrows).1 (mrows).2.1 (mrows).2.2, .int .i64 (mcnt), .int .u64 (mridx), .bool (true)] ∧ Keeps [b] w w' := by
  subst hwt hk ht hq ho
  have hc := hB.cell
  have hf := hB.free
  have hl := hB.lt
  have k1 : IntKind.i64.wrap (100 + num) = 100 + num := IntWalk.i64_in _ (by omega)
  go_enter Tryd.func9, Tryd.ntmps9
  go_wp2
  go_quiet (fail)
  go_wp2
  go_quiet (fail)
  go_wp2
  go_region
  generalize hW : World.setCell _ ⟨b, 13, none⟩ _ = w1
  have hB1 : Blk w1 b 73 #[.int .i64 (num), .int .i64 (n), .int .i64 (tgt), .int .u64 (msq), .string (sql), .bool (false), .int .i64 (tk), .int .u64 (mrs), .int .i64 (mrc), .slice (mcols).1 (mcols).2.1 (mcols).2.2, .slice (mrows).1 (mrows).2.1 (mrows).2.2, .int .i64 (mcnt), .int .u64 (mridx), .bool (true)] := by
    rw [← hW]
    refine Blk.eq (((((((((((hB.alloc _).alloc _).drewN _).put 5 _).put 7 _).put 8 _).put 9 _).put 10 _).put 11 _).put 12 _).put 13 _) ?_
    simp
  have hne : w.heap.size + 1 ≠ b := by omega
  have hM : Blk w1 (w.heap.size + 1) 40 #[.int .i64 0, .int .i64 0, .int .i64 0, .int .u64 0, .int .u64 0, .int .u64 0, .slice none 0 0, .int .u64 0, .int .u64 0, .bool false, .int .i64 0, .slice none 0 0, .bool false, .int .u64 0, .int .u64 0, .string ⟨#[]⟩, .int .u64 0, .int .i64 0, .slice none 0 0, .slice none 0 0, .int .i64 0, .int .u64 0, .int .i64 0] := by
    rw [← hW]
    exact (((((((((Blk.fresh_at _ _ _ (n := w.heap.size + 1) (by simp)).drewN _).other hne _).other hne _).other hne _).other hne _).other hne _).other hne _).other hne _).other hne _
  have hK : Keeps [b] w w1 := by
    rw [← hW]
    exact ((((((((((((Keeps.refl [b] w).alloc _).alloc _).drewN _).set (.inl (by simp)) _).set (.inl (by simp)) _).set (.inl (by simp)) _).set (.inl (by simp)) _).set (.inl (by simp)) _).set (.inl (by simp)) _).set (.inl (by simp)) _).set (.inl (by simp)) _)
  clear hW hc hf
  go_wp2_with (refine wpList_store_agg rfl rfl _ _ _ rfl (w.heap.size + 1) 0 rfl _ rfl 40 _ hM Tryd.sizeM (by simp) rfl _ rfl ?_; intro w2 hM2 hK2)
  exact bodyPost_ret (results_ctt rfl rfl hM2 Tryd.underlying40 rfl Tryd.sizeM) rfl ⟨rfl, hB1.keep hK2 (by simp; omega), hK.step hK2 (by simp)⟩

set_option maxRecDepth 100000 in
set_option maxHeartbeats 2000000 in
theorem recv_hint (b : Nat) (num n tgt seq : Int) (sql : ByteArray) (wt : Bool) (tk rs rc : Int) (cols rows : Option Addr × Nat × Nat) (cnt idx : Int) (sm : Bool) (mk mf mt mterm mix mlt : Int) (ment : Option Addr × Nat × Nat) (mcm mrd : Int) (mok : Bool) (moff : Int) (mdat : Option Addr × Nat × Nat) (mdone : Bool) (mcl msq : Int) (msql : ByteArray) (mrs mrc : Int) (mcols mrows : Option Addr × Nat × Nat) (mcnt mridx mh : Int) (w : World) (h0 : 0 ≤ num) (h1 : num < 8) (hn : 0 < n) (hn' : n < 100) (hwt : wt = true) (hk : mk = 8) (ht : mt = 100 + num) (hq : msq = seq) (ho : mok = false)
    (hh : 0 ≤ mh) (hh' : mh < n) (hne : (mh != tgt) = true) (hB : Blk w b 73 #[.int .i64 (num), .int .i64 (n), .int .i64 (tgt), .int .u64 (seq), .string (sql), .bool (wt), .int .i64 (tk), .int .u64 (rs), .int .i64 (rc), .slice (cols).1 (cols).2.1 (cols).2.2, .slice (rows).1 (rows).2.1 (rows).2.2, .int .i64 (cnt), .int .u64 (idx), .bool (sm)]) :
    Calls Tryd.prog 9 #[.pointer (some ⟨b, 0, none⟩), .agg #[.int .i64 mk, .int .i64 mf, .int .i64 mt, .int .u64 mterm, .int .u64 mix, .int .u64 mlt, .slice ment.1 ment.2.1 ment.2.2, .int .u64 mcm, .int .u64 mrd, .bool mok, .int .i64 moff, .slice mdat.1 mdat.2.1 mdat.2.2, .bool mdone, .int .u64 mcl, .int .u64 msq, .string msql, .int .u64 mrs, .int .i64 mrc, .slice mcols.1 mcols.2.1 mcols.2.2, .slice mrows.1 mrows.2.1 mrows.2.2, .int .i64 mcnt, .int .u64 mridx, .int .i64 mh]] w fun e w' => e = .returned (.tuple #[.agg #[.int .i64 7, .int .i64 (100 + num), .int .i64 (mh % n), .int .u64 0, .int .u64 0, .int .u64 0, .slice none 0 0, .int .u64 0, .int .u64 0, .bool false, .int .i64 0, .slice none 0 0, .bool false, .int .u64 (num + 1), .int .u64 (seq), .string (sql), .int .u64 0, .int .i64 0, .slice none 0 0, .slice none 0 0, .int .i64 0, .int .u64 0, .int .i64 0], .bool true, .bool false]) ∧
      Blk w' b 73 #[.int .i64 (num), .int .i64 (n), .int .i64 (mh % n), .int .u64 (seq), .string (sql), .bool (true), .int .i64 (0), .int .u64 (rs), .int .i64 (rc), .slice (cols).1 (cols).2.1 (cols).2.2, .slice (rows).1 (rows).2.1 (rows).2.2, .int .i64 (cnt), .int .u64 (idx), .bool (sm)] ∧ Keeps [b] w w' := by
  subst hwt hk ht hq ho
  have hc := hB.cell
  have hl := hB.lt
  have k1 : IntKind.i64.wrap (100 + num) = 100 + num := IntWalk.i64_in _ (by omega)
  go_enter Tryd.func9, Tryd.ntmps9
  go_wp2
  go_quiet (fail)
  go_wp2
  go_quiet (fail)
  go_wp2
  go_quiet (fail)
  go_wp2_with fail
  refine (turns_any b num n tgt msq sql true tk rs rc cols rows cnt idx sm mh _ h0 h1 hh hn hn' (((hB.alloc _).alloc _).drewN _)).mono ?_
  rintro e w1 ⟨rfl, hB1, hk1⟩
  have hM := ((Blk.fresh_at _ _ _ (n := w.heap.size + 1) (by simp)).drewN _).keep hk1 (by simp; omega)
  have hK : Keeps [b] w w1 := ((((Keeps.refl [b] w).alloc _).alloc _).drewN _).trans hk1
  clear hk1 hc
  go_wp2_with (refine wpList_store_agg rfl rfl _ _ _ rfl (w.heap.size + 1) 0 rfl _ rfl 40 _ hM Tryd.sizeM (by simp) rfl _ rfl ?_; intro w2 hM2 hK2)
  exact bodyPost_ret (results_ctt rfl rfl hM2 Tryd.underlying40 rfl Tryd.sizeM) rfl ⟨rfl, hB1.keep hK2 (by simp; omega), hK.step hK2 (by simp)⟩
end Go.Proofs.YtpkjcdmeabjifaaDoor
