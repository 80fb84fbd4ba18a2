/- The client's methods, one contract each: Recv, what it passes by. -/
import Derived.Test.YtpkjcdmeabjifaaDoorCli5

namespace Go.Proofs.YtpkjcdmeabjifaaDoor
open Go.RowKit

set_option maxRecDepth 100000 in
set_option maxHeartbeats 1000000 in
theorem recv_no1 (b : Nat) (num n tgt seq : Int) (sql : ByteArray) (wt : Bool) (tk rs rc : Int) (cols rows : Option Addr × Nat × Nat) (cnt idx : Int) (sm : Bool) (mk mf mt mterm mix mlt : Int) (ment : Option Addr × Nat × Nat) (mcm mrd : Int) (mok : Bool) (moff : Int) (mdat : Option Addr × Nat × Nat) (mdone : Bool) (mcl msq : Int) (msql : ByteArray) (mrs mrc : Int) (mcols mrows : Option Addr × Nat × Nat) (mcnt mridx mh : Int) (w : World) (hwt : wt = false) (hB : Blk w b 73 #[.int .i64 (num), .int .i64 (n), .int .i64 (tgt), .int .u64 (seq), .string (sql), .bool (wt), .int .i64 (tk), .int .u64 (rs), .int .i64 (rc), .slice (cols).1 (cols).2.1 (cols).2.2, .slice (rows).1 (rows).2.1 (rows).2.2, .int .i64 (cnt), .int .u64 (idx), .bool (sm)]) :
    Calls Tryd.prog 9 #[.pointer (some ⟨b, 0, none⟩), .agg #[.int .i64 mk, .int .i64 mf, .int .i64 mt, .int .u64 mterm, .int .u64 mix, .int .u64 mlt, .slice ment.1 ment.2.1 ment.2.2, .int .u64 mcm, .int .u64 mrd, .bool mok, .int .i64 moff, .slice mdat.1 mdat.2.1 mdat.2.2, .bool mdone, .int .u64 mcl, .int .u64 msq, .string msql, .int .u64 mrs, .int .i64 mrc, .slice mcols.1 mcols.2.1 mcols.2.2, .slice mrows.1 mrows.2.1 mrows.2.2, .int .i64 mcnt, .int .u64 mridx, .int .i64 mh]] w fun e w' => e = .returned (.tuple #[.agg #[.int .i64 0, .int .i64 0, .int .i64 0, .int .u64 0, .int .u64 0, .int .u64 0, .slice none 0 0, .int .u64 0, .int .u64 0, .bool false, .int .i64 0, .slice none 0 0, .bool false, .int .u64 0, .int .u64 0, .string ⟨#[]⟩, .int .u64 0, .int .i64 0, .slice none 0 0, .slice none 0 0, .int .i64 0, .int .u64 0, .int .i64 0], .bool false, .bool false]) ∧ Keeps [] w w' := by
  subst hwt
  have hc := hB.cell
  have hl := hB.lt
  go_enter Tryd.func9, Tryd.ntmps9
  go_wp2_with (refine wpList_store_agg rfl rfl _ _ _ rfl (w.heap.size + 1) 0 rfl _ rfl 40 _ (Blk.fresh_at _ _ _ (n := w.heap.size + 1) (by simp)) Tryd.sizeM (by simp) rfl _ rfl ?_; intro w2 hM2 hK2)
  exact bodyPost_ret (results_ctt rfl rfl hM2 Tryd.underlying40 rfl Tryd.sizeM) rfl ⟨rfl, (((Keeps.refl [] w).alloc _).alloc _).step hK2 (by simp)⟩

set_option maxRecDepth 100000 in
set_option maxHeartbeats 1000000 in
theorem recv_no2 (b : Nat) (num n tgt seq : Int) (sql : ByteArray) (wt : Bool) (tk rs rc : Int) (cols rows : Option Addr × Nat × Nat) (cnt idx : Int) (sm : Bool) (mk mf mt mterm mix mlt : Int) (ment : Option Addr × Nat × Nat) (mcm mrd : Int) (mok : Bool) (moff : Int) (mdat : Option Addr × Nat × Nat) (mdone : Bool) (mcl msq : Int) (msql : ByteArray) (mrs mrc : Int) (mcols mrows : Option Addr × Nat × Nat) (mcnt mridx mh : Int) (w : World) (hwt : wt = true) (hk : (mk != 8) = true) (hB : Blk w b 73 #[.int .i64 (num), .int .i64 (n), .int .i64 (tgt), .int .u64 (seq), .string (sql), .bool (wt), .int .i64 (tk), .int .u64 (rs), .int .i64 (rc), .slice (cols).1 (cols).2.1 (cols).2.2, .slice (rows).1 (rows).2.1 (rows).2.2, .int .i64 (cnt), .int .u64 (idx), .bool (sm)]) :
    Calls Tryd.prog 9 #[.pointer (some ⟨b, 0, none⟩), .agg #[.int .i64 mk, .int .i64 mf, .int .i64 mt, .int .u64 mterm, .int .u64 mix, .int .u64 mlt, .slice ment.1 ment.2.1 ment.2.2, .int .u64 mcm, .int .u64 mrd, .bool mok, .int .i64 moff, .slice mdat.1 mdat.2.1 mdat.2.2, .bool mdone, .int .u64 mcl, .int .u64 msq, .string msql, .int .u64 mrs, .int .i64 mrc, .slice mcols.1 mcols.2.1 mcols.2.2, .slice mrows.1 mrows.2.1 mrows.2.2, .int .i64 mcnt, .int .u64 mridx, .int .i64 mh]] w fun e w' => e = .returned (.tuple #[.agg #[.int .i64 0, .int .i64 0, .int .i64 0, .int .u64 0, .int .u64 0, .int .u64 0, .slice none 0 0, .int .u64 0, .int .u64 0, .bool false, .int .i64 0, .slice none 0 0, .bool false, .int .u64 0, .int .u64 0, .string ⟨#[]⟩, .int .u64 0, .int .i64 0, .slice none 0 0, .slice none 0 0, .int .i64 0, .int .u64 0, .int .i64 0], .bool false, .bool false]) ∧ Keeps [] w w' := by
  subst hwt
  have hc := hB.cell
  have hl := hB.lt
  go_enter Tryd.func9, Tryd.ntmps9
  go_wp2_with (refine wpList_store_agg rfl rfl _ _ _ rfl (w.heap.size + 1) 0 rfl _ rfl 40 _ (Blk.fresh_at _ _ _ (n := w.heap.size + 1) (by simp)) Tryd.sizeM (by simp) rfl _ rfl ?_; intro w2 hM2 hK2)
  exact bodyPost_ret (results_ctt rfl rfl hM2 Tryd.underlying40 rfl Tryd.sizeM) rfl ⟨rfl, (((Keeps.refl [] w).alloc _).alloc _).step hK2 (by simp)⟩

set_option maxRecDepth 100000 in
set_option maxHeartbeats 1000000 in
theorem recv_no3 (b : Nat) (num n tgt seq : Int) (sql : ByteArray) (wt : Bool) (tk rs rc : Int) (cols rows : Option Addr × Nat × Nat) (cnt idx : Int) (sm : Bool) (mk mf mt mterm mix mlt : Int) (ment : Option Addr × Nat × Nat) (mcm mrd : Int) (mok : Bool) (moff : Int) (mdat : Option Addr × Nat × Nat) (mdone : Bool) (mcl msq : Int) (msql : ByteArray) (mrs mrc : Int) (mcols mrows : Option Addr × Nat × Nat) (mcnt mridx mh : Int) (w : World) (h0 : 0 ≤ num) (h1 : num < 8) (hwt : wt = true) (hk : mk = 8) (ht : (mt != 100 + num) = true) (hB : Blk w b 73 #[.int .i64 (num), .int .i64 (n), .int .i64 (tgt), .int .u64 (seq), .string (sql), .bool (wt), .int .i64 (tk), .int .u64 (rs), .int .i64 (rc), .slice (cols).1 (cols).2.1 (cols).2.2, .slice (rows).1 (rows).2.1 (rows).2.2, .int .i64 (cnt), .int .u64 (idx), .bool (sm)]) :
    Calls Tryd.prog 9 #[.pointer (some ⟨b, 0, none⟩), .agg #[.int .i64 mk, .int .i64 mf, .int .i64 mt, .int .u64 mterm, .int .u64 mix, .int .u64 mlt, .slice ment.1 ment.2.1 ment.2.2, .int .u64 mcm, .int .u64 mrd, .bool mok, .int .i64 moff, .slice mdat.1 mdat.2.1 mdat.2.2, .bool mdone, .int .u64 mcl, .int .u64 msq, .string msql, .int .u64 mrs, .int .i64 mrc, .slice mcols.1 mcols.2.1 mcols.2.2, .slice mrows.1 mrows.2.1 mrows.2.2, .int .i64 mcnt, .int .u64 mridx, .int .i64 mh]] w fun e w' => e = .returned (.tuple #[.agg #[.int .i64 0, .int .i64 0, .int .i64 0, .int .u64 0, .int .u64 0, .int .u64 0, .slice none 0 0, .int .u64 0, .int .u64 0, .bool false, .int .i64 0, .slice none 0 0, .bool false, .int .u64 0, .int .u64 0, .string ⟨#[]⟩, .int .u64 0, .int .i64 0, .slice none 0 0, .slice none 0 0, .int .i64 0, .int .u64 0, .int .i64 0], .bool false, .bool false]) ∧ Keeps [] w w' := by
  subst hwt hk
  have hc := hB.cell
  have hl := hB.lt
  have k1 : IntKind.i64.wrap (100 + num) = 100 + num := IntWalk.i64_in _ (by omega)
  go_enter Tryd.func9, Tryd.ntmps9
  go_wp2
  go_quiet (fail)
  go_wp2_with (refine wpList_store_agg (w := World.drewN _ _) rfl rfl _ _ _ rfl (w.heap.size + 1) 0 rfl _ rfl 40 _ (Blk.drewN (Blk.fresh_at _ _ _ (n := w.heap.size + 1) (by simp)) _) Tryd.sizeM (by simp) rfl _ rfl ?_; intro w2 hM2 hK2)
  exact bodyPost_ret (results_ctt rfl rfl hM2 Tryd.underlying40 rfl Tryd.sizeM) rfl ⟨rfl, ((((Keeps.refl [] w).alloc _).alloc _).drewN _).step hK2 (by simp)⟩

set_option maxRecDepth 100000 in
set_option maxHeartbeats 1000000 in
theorem recv_no4 (b : Nat) (num n tgt seq : Int) (sql : ByteArray) (wt : Bool) (tk rs rc : Int) (cols rows : Option Addr × Nat × Nat) (cnt idx : Int) (sm : Bool) (mk mf mt mterm mix mlt : Int) (ment : Option Addr × Nat × Nat) (mcm mrd : Int) (mok : Bool) (moff : Int) (mdat : Option Addr × Nat × Nat) (mdone : Bool) (mcl msq : Int) (msql : ByteArray) (mrs mrc : Int) (mcols mrows : Option Addr × Nat × Nat) (mcnt mridx mh : Int) (w : World) (h0 : 0 ≤ num) (h1 : num < 8) (hwt : wt = true) (hk : mk = 8) (ht : mt = 100 + num) (hq : (msq != seq) = true) (hB : Blk w b 73 #[.int .i64 (num), .int .i64 (n), .int .i64 (tgt), .int .u64 (seq), .string (sql), .bool (wt), .int .i64 (tk), .int .u64 (rs), .int .i64 (rc), .slice (cols).1 (cols).2.1 (cols).2.2, .slice (rows).1 (rows).2.1 (rows).2.2, .int .i64 (cnt), .int .u64 (idx), .bool (sm)]) :
    Calls Tryd.prog 9 #[.pointer (some ⟨b, 0, none⟩), .agg #[.int .i64 mk, .int .i64 mf, .int .i64 mt, .int .u64 mterm, .int .u64 mix, .int .u64 mlt, .slice ment.1 ment.2.1 ment.2.2, .int .u64 mcm, .int .u64 mrd, .bool mok, .int .i64 moff, .slice mdat.1 mdat.2.1 mdat.2.2, .bool mdone, .int .u64 mcl, .int .u64 msq, .string msql, .int .u64 mrs, .int .i64 mrc, .slice mcols.1 mcols.2.1 mcols.2.2, .slice mrows.1 mrows.2.1 mrows.2.2, .int .i64 mcnt, .int .u64 mridx, .int .i64 mh]] w fun e w' => e = .returned (.tuple #[.agg #[.int .i64 0, .int .i64 0, .int .i64 0, .int .u64 0, .int .u64 0, .int .u64 0, .slice none 0 0, .int .u64 0, .int .u64 0, .bool false, .int .i64 0, .slice none 0 0, .bool false, .int .u64 0, .int .u64 0, .string ⟨#[]⟩, .int .u64 0, .int .i64 0, .slice none 0 0, .slice none 0 0, .int .i64 0, .int .u64 0, .int .i64 0], .bool false, .bool false]) ∧ Keeps [] w w' := by
  subst hwt hk ht
  have hc := hB.cell
  have hl := hB.lt
  have k1 : IntKind.i64.wrap (100 + num) = 100 + num := IntWalk.i64_in _ (by omega)
  go_enter Tryd.func9, Tryd.ntmps9
  go_wp2
  go_quiet (fail)
  go_wp2
  go_quiet (fail)
  go_wp2_with (refine wpList_store_agg (w := World.drewN _ _) rfl rfl _ _ _ rfl (w.heap.size + 1) 0 rfl _ rfl 40 _ (Blk.drewN (Blk.fresh_at _ _ _ (n := w.heap.size + 1) (by simp)) _) Tryd.sizeM (by simp) rfl _ rfl ?_; intro w2 hM2 hK2)
  exact bodyPost_ret (results_ctt rfl rfl hM2 Tryd.underlying40 rfl Tryd.sizeM) rfl ⟨rfl, ((((Keeps.refl [] w).alloc _).alloc _).drewN _).step hK2 (by simp)⟩
end Go.Proofs.YtpkjcdmeabjifaaDoor
