/- The document's client, one contract each: Recv, what it takes. -/
import Derived.Test.YtpkjcdmeabjifaaDoorRef2

namespace Go.Proofs.YtpkjcdmeabjifaaDoor
open Go.RowKit

set_option maxRecDepth 100000 in
set_option maxHeartbeats 2000000 in
theorem rrecv_ok (b : Nat) (num n tgt nxt : Int) (wt : Bool) (seq : Int) (sql : ByteArray) (tk rs rc : Int) (cols rows : Option Addr × Nat × Nat) (cnt idx : Int) (sm : Bool) (mk mf mt mterm mix mlt : Int) (ment : Option Addr × Nat × Nat) (mcm mrd : Int) (mok : Bool) (moff : Int) (mdat : Option Addr × Nat × Nat) (mdone : Bool) (mcl msq : Int) (msql : ByteArray) (mrs mrc : Int) (mcols mrows : Option Addr × Nat × Nat) (mcnt mridx mh : Int) (w : World) (h0 : 0 ≤ num) (h1 : num < 8) (hwt : wt = true) (hk : mk = 8) (ht : mt = 100 + num) (hq : msq = seq) (ho : mok = true) (hB : Blk w b 64 #[.int .i64 (num), .int .i64 (n), .int .i64 (tgt), .int .u64 (nxt), .bool (wt), .int .u64 (seq), .string (sql), .int .i64 (tk), .int .u64 (rs), .int .i64 (rc), .slice (cols).1 (cols).2.1 (cols).2.2, .slice (rows).1 (rows).2.1 (rows).2.2, .int .i64 (cnt), .int .u64 (idx), .bool (sm)]) :
    Calls Tryd.prog 18 #[.pointer (some ⟨b, 0, none⟩), .agg #[.int .i64 mk, .int .i64 mf, .int .i64 mt, .int .u64 mterm, .int .u64 mix, .int .u64 mlt, .slice ment.1 ment.2.1 ment.2.2, .int .u64 mcm, .int .u64 mrd, .bool mok, .int .i64 moff, .slice mdat.1 mdat.2.1 mdat.2.2, .bool mdone, .int .u64 mcl, .int .u64 msq, .string msql, .int .u64 mrs, .int .i64 mrc, .slice mcols.1 mcols.2.1 mcols.2.2, .slice mrows.1 mrows.2.1 mrows.2.2, .int .i64 mcnt, .int .u64 mridx, .int .i64 mh]] w fun e w' => e = .returned (.tuple #[.agg #[.int .i64 0, .int .i64 0, .int .i64 0, .int .u64 0, .int .u64 0, .int .u64 0, .slice none 0 0, .int .u64 0, .int .u64 0, .bool false, .int .i64 0, .slice none 0 0, .bool false, .int .u64 0, .int .u64 0, .string ⟨#[]⟩, .int .u64 0, .int .i64 0, .slice none 0 0, .slice none 0 0, .int .i64 0, .int .u64 0, .int .i64 0], .bool false, .bool true]) ∧
      Blk w' b 64 #[.int .i64 (num), .int .i64 (n), .int .i64 (tgt), .int .u64 (nxt), .bool (false), .int .u64 (seq), .string (sql), .int .i64 (tk), .int .u64 (mrs), .int .i64 (mrc), .slice (mcols).1 (mcols).2.1 (mcols).2.2, .slice (mrows).1 (mrows).2.1 (mrows).2.2, .int .i64 (mcnt), .int .u64 (mridx), .bool (true)] ∧ Keeps [b] w w' := by
  subst hwt hk ht hq ho
  have hc := hB.cell
  have hf := hB.free
  have hl := hB.lt
  have k1 : IntKind.i64.wrap (100 + num) = 100 + num := IntWalk.i64_in _ (by omega)
  go_enter Tryd.func18, Tryd.ntmps18
  go_wp2
  go_quiet (fail)
  clear k1
  have hne : w.heap.size ≠ b := by omega
  have hne1 : w.heap.size + 1 ≠ b := by omega
  go_wp2_with (first
    | (refine wpList_load_agg rfl _ _ rfl w.heap.size 16 6 rfl 40 _ _ ((((Blk.fresh w _ _).alloc _).drewN _).other hne _) Tryd.underlying38 rfl Tryd.sizeR (by simp) _ rfl ?_)
    | (refine wpList_store_agg rfl rfl _ _ _ rfl b 8 rfl _ rfl 64 _ ((((hB.alloc _).alloc _).drewN _).put 4 _) Tryd.sizeR (by simp) rfl _ rfl ?_
       intro w1 hB1 hK1
       have hM1 : Blk w1 (w.heap.size + 1) 40 #[.int .i64 0, .int .i64 0, .int .i64 0, .int .u64 0, .int .u64 0, .int .u64 0, .slice none 0 0, .int .u64 0, .int .u64 0, .bool false, .int .i64 0, .slice none 0 0, .bool false, .int .u64 0, .int .u64 0, .string ⟨#[]⟩, .int .u64 0, .int .i64 0, .slice none 0 0, .slice none 0 0, .int .i64 0, .int .u64 0, .int .i64 0] := (((Blk.fresh_at _ _ _ (n := w.heap.size + 1) (by simp)).drewN _).other hne1 _).keep hK1 (by simpa using hne1)
       have hk1 : Keeps [b] w w1 := (((((Keeps.refl [b] w).alloc _).alloc _).drewN _).set (p := ⟨b, 4, none⟩) (.inl (by simp)) _).trans hK1
       have hc1 := hB1.cell
       have hf1 := hB1.free
       clear hK1)
    | (refine wpList_store_agg rfl rfl _ _ _ rfl (w.heap.size + 1) 0 rfl _ rfl 40 _ (hM1.other hne1 _) Tryd.sizeM (by simp) rfl _ rfl ?_; intro w2 hM2 hK2))
  exact bodyPost_ret (results_ctt rfl rfl hM2 Tryd.underlying40 rfl Tryd.sizeM) rfl ⟨rfl, (hB1.put 14 _).keep hK2 (by simp; omega), (hk1.set (p := ⟨b, 14, none⟩) (.inl (by simp)) _).step hK2 (by simp)⟩
end Go.Proofs.YtpkjcdmeabjifaaDoor
