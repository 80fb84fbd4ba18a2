/- Laws on whole structs in memory, over any program: a store of an aggregate into a known block, a load of one out of it, results that lie in a block. -/
import Derived.Test.YtfgmbjdeimallaaGreatDoorBase
namespace Go.Proofs.YtfgmbjdeimallaaGreatDoor
open Go.RowKit

section
variable {P : Program} {w : World} {ops : Array Oper} {rest : List Oper} {o : Oper} {a : Act} {Q : Exit → Act → World → Prop}

theorem Blk.row {b : Nat} {t : TypeId} {cs : Array Value} (h : Blk w b t cs) (cs' : Array Value) : Blk (w.setRow b cs') b t cs' := setRow_heap w b cs cs' t (0, 0) h
theorem Keeps.row (w : World) (b : Nat) (cs : Array Value) : Keeps [b] w (w.setRow b cs) :=
  ⟨rfl, rfl, rfl, by simp, fun k _ hk => setRow_other w b k cs (by simpa using hk)⟩

theorem run_store_part (b off : Nat) (t ty : TypeId) (cs : Array Value) (vs : List Value) (hB : Blk w b t cs) (hsz : (P.info? ty).map (·.size) = some vs.length)
    (hfit : off + vs.length ≤ cs.size) (h1 : vs.all Value.oneCell' = true) :
    (storeVar ty ⟨b, off, none⟩ (.agg vs.toArray)).run P w = .ok () (w.setRow b (cs.toList.take off ++ vs ++ cs.toList.drop (off + vs.length)).toArray) := by
  have hst := run_storeCells_at P b off t vs 0 cs w hB (by simpa using hfit) (by simpa using h1)
  cases hq : P.info? ty with
  | none => simp [hq] at hsz
  | some i =>
    have hi : i.size = vs.length := by simpa [hq] using hsz
    simp [storeVar, sizeOf, typeInfo, hq, hi, Value.cells, hst]

/-- a struct is stored into a block that is known whole -/
theorem wpList_store_agg (hgd : o.guard = none) (hdst : o.dst = none) (ty : TypeId) (x y : Operand) (ho : o.op = .store ty x y) (b off : Nat) (hx : a.eval x = .pointer (some ⟨b, off, none⟩))
    (vs : List Value) (hy : a.eval y = .agg vs.toArray) (t : TypeId) (cs : Array Value) (hB : Blk w b t cs) (hsz : (P.info? ty).map (·.size) = some vs.length)
    (hfit : off + vs.length ≤ cs.size) (h1 : vs.all Value.oneCell' = true) (cs' : Array Value) (hcs : (cs.toList.take off ++ vs ++ cs.toList.drop (off + vs.length)).toArray = cs')
    (h : ∀ w', Blk w' b t cs' → Keeps [b] w w' → wpList P ops Q rest a w') : wpList P ops Q (o :: rest) a w := by
  refine wpList_plain hgd fun K hK => ?_
  have hr := run_store_part (P := P) b off t ty cs vs hB hsz hfit h1
  rw [hcs] at hr
  unfold Oper.wp execOp
  simp only [ho, hx, hy, Instr.storeAt, Instr.sureAddr, Sem.run_bind, Sem.run_pure, Result.andThen_ok, hr, Oper.upon]
  rw [hdst]
  exact hK _ _ (h _ (hB.row cs') (Keeps.row w b cs'))

theorem setRow_alloc (w : World) (t : TypeId) (cs cs' : Array Value) : (w.alloc (.cells cs t)).setRow w.heap.size cs' = w.alloc (.cells cs' t) := by
  unfold World.setRow World.alloc
  congr 1
  apply Array.ext_getElem?
  intro k
  simp only [Array.getElem?_modify, Array.getElem?_push]
  by_cases hk : k = w.heap.size
  · subst hk; simp
  · have : ¬ w.heap.size = k := fun e => hk e.symm
    simp [hk, this]
/-- a struct is stored into the block that was made last -/
theorem wpList_store_fresh (hgd : o.guard = none) (hdst : o.dst = none) (ty : TypeId) (x y : Operand) (ho : o.op = .store ty x y) (n : Nat) (hx : a.eval x = .pointer (some ⟨n, 0, none⟩)) (hn : n = w.heap.size)
    (vs : List Value) (hy : a.eval y = .agg vs.toArray) (t : TypeId) (cs : Array Value) (hsz : (P.info? ty).map (·.size) = some vs.length)
    (hfit : cs.size = vs.length) (h1 : vs.all Value.oneCell' = true)
    (h : wpList P ops Q rest a (w.alloc (.cells vs.toArray t))) : wpList P ops Q (o :: rest) a (w.alloc (.cells cs t)) := by
  subst hn
  refine wpList_plain hgd fun K hK => ?_
  have hr := run_store_part (P := P) w.heap.size 0 t ty cs vs (Blk.fresh w t cs) hsz (by omega) h1
  have e : (cs.toList.take 0 ++ vs ++ cs.toList.drop (0 + vs.length)) = vs := by
    rw [List.drop_eq_nil_of_le (by simp; omega)]
    simp
  rw [e, setRow_alloc] at hr
  unfold Oper.wp execOp
  simp only [ho, hx, hy, Instr.storeAt, Instr.sureAddr, Sem.run_bind, Sem.run_pure, Result.andThen_ok, hr, Oper.upon]
  rw [hdst]
  exact hK _ _ h

theorem run_load_part (b off n : Nat) (t ty : TypeId) (cs : Array Value) (d : TypeDesc) (hB : Blk w b t cs) (hu : P.underlying ty = some d)
    (hd : (match d with | .struct _ | .array _ _ => true | _ => false) = true) (hsz : (P.info? ty).map (·.size) = some n) (hfit : off + n ≤ cs.size) :
    (loadVar ty ⟨b, off, none⟩).run P w = .ok (.agg ((cs.toList.drop off).take n).toArray) w := by
  have hlen : ((cs.toList.drop off).take n).length = n := by simp; omega
  have hl := run_loadCells_list (P := P) (w := w) ⟨b, off, none⟩ ((cs.toList.drop off).take n) (fun j v hv => by
    have hadd : (⟨b, off, none⟩ : Addr).add j = ⟨b, off + j, none⟩ := by unfold Addr.add; split <;> simp_all
    rw [hadd, hB.cell]
    rw [List.getElem?_take] at hv
    split at hv
    · simpa using hv
    · cases hv)
  rw [hlen] at hl
  cases hq : P.info? ty with
  | none => simp [hq] at hsz
  | some i =>
    have hi : i.size = n := by simpa [hq] using hsz
    have hagg : (isAgg ty).run P w = .ok true w := by
      unfold isAgg
      rw [Sem.run_bind, run_underlying hu w]
      cases d <;> simp_all
    simp [loadVar, Sem.run_bind, hagg, sizeOf, typeInfo, hq, hi, hl]

/-- a struct is loaded out of a block that is known whole -/
theorem wpList_load_agg (hgd : o.guard = none) (ty : TypeId) (x : Operand) (ho : o.op = .load ty x) (b off n : Nat) (hx : a.eval x = .pointer (some ⟨b, off, none⟩))
    (t : TypeId) (cs : Array Value) (d : TypeDesc) (hB : Blk w b t cs) (hu : P.underlying ty = some d)
    (hd : (match d with | .struct _ | .array _ _ => true | _ => false) = true) (hsz : (P.info? ty).map (·.size) = some n) (hfit : off + n ≤ cs.size)
    (vs : Array Value) (hvs : ((cs.toList.drop off).take n).toArray = vs) (h : wpList P ops Q rest (a.put o.dst (.agg vs)) w) : wpList P ops Q (o :: rest) a w := by
  refine wpList_plain hgd fun K hK => ?_
  have hr := run_load_part (P := P) b off n t ty cs d hB hu hd hsz hfit
  rw [hvs] at hr
  unfold Oper.wp execOp
  simp only [ho, hx, Instr.loadAt, Instr.sureAddr, Sem.run_bind, Sem.run_pure, Result.andThen_ok, hr, Oper.upon]
  exact hK _ _ h

/-- a struct is loaded out of a run of cells -/
theorem wpList_load_run (hgd : o.guard = none) (ty : TypeId) (x : Operand) (ho : o.op = .load ty x) (b off : Nat) (hx : a.eval x = .pointer (some ⟨b, off, none⟩))
    (vs : List Value) (hc : ∀ j v, vs[j]? = some v → w.cell? ⟨b, off + j, none⟩ = some v) (d : TypeDesc) (hu : P.underlying ty = some d)
    (hd : (match d with | .struct _ | .array _ _ => true | _ => false) = true) (hsz : (P.info? ty).map (·.size) = some vs.length)
    (h : wpList P ops Q rest (a.put o.dst (.agg vs.toArray)) w) : wpList P ops Q (o :: rest) a w := by
  refine wpList_plain hgd fun K hK => ?_
  have hl := run_loadCells_list (P := P) (w := w) ⟨b, off, none⟩ vs (fun j v hv => by
    have hadd : (⟨b, off, none⟩ : Addr).add j = ⟨b, off + j, none⟩ := by unfold Addr.add; split <;> simp_all
    rw [hadd]
    exact hc j v hv)
  have hr : (loadVar ty ⟨b, off, none⟩).run P w = .ok (.agg vs.toArray) w := by
    cases hq : P.info? ty with
    | none => simp [hq] at hsz
    | some i =>
      have hi : i.size = vs.length := by simpa [hq] using hsz
      have hagg : (isAgg ty).run P w = .ok true w := by
        unfold isAgg
        rw [Sem.run_bind, run_underlying hu w]
        cases d <;> simp_all
      simp [loadVar, Sem.run_bind, hagg, sizeOf, typeInfo, hq, hi, hl]
  unfold Oper.wp execOp
  simp only [ho, hx, Instr.loadAt, Instr.sureAddr, Sem.run_bind, Sem.run_pure, Result.andThen_ok, hr, Oper.upon]
  exact hK _ _ h

section
variable {fn : Func} {tmps : Array Value} {p u v : Tmp} {ty t : TypeId} {b : Nat} {cs : Array Value} {d : TypeDesc}
theorem run_load_whole (hB : Blk w b t cs) (hu : P.underlying ty = some d) (hd : (match d with | .struct _ | .array _ _ => true | _ => false) = true)
    (hsz : (P.info? ty).map (·.size) = some cs.size) : (loadVar ty ⟨b, 0, none⟩).run P w = .ok (.agg cs) w := run_loadVar_row w b t ty cs (0, 0) d hB hu hd hsz
theorem results_c (h : fn.results = #[.cell p ty]) (hp : tmps.getD p undef = .pointer (some ⟨b, 0, none⟩)) (hB : Blk w b t cs) (hu : P.underlying ty = some d)
    (hd : (match d with | .struct _ | .array _ _ => true | _ => false) = true) (hsz : (P.info? ty).map (·.size) = some cs.size) :
    (results fn tmps).run P w = .ok (.agg cs) w := results_cell_row h tmps w b t cs (0, 0) d hp hB hu hd hsz
theorem results_ct (h : fn.results = #[.cell p ty, .tmp u]) (hp : tmps.getD p undef = .pointer (some ⟨b, 0, none⟩)) (hB : Blk w b t cs) (hu : P.underlying ty = some d)
    (hd : (match d with | .struct _ | .array _ _ => true | _ => false) = true) (hsz : (P.info? ty).map (·.size) = some cs.size) :
    (results fn tmps).run P w = .ok (.tuple #[.agg cs, tmps.getD u undef]) w := by
  have hp' : tmps[p]?.getD undef = .pointer (some ⟨b, 0, none⟩) := by simpa using hp
  simp [results, h, hp', asAddr, run_load_whole hB hu hd hsz]
theorem results_ctt (h : fn.results = #[.cell p ty, .tmp u, .tmp v]) (hp : tmps.getD p undef = .pointer (some ⟨b, 0, none⟩)) (hB : Blk w b t cs) (hu : P.underlying ty = some d)
    (hd : (match d with | .struct _ | .array _ _ => true | _ => false) = true) (hsz : (P.info? ty).map (·.size) = some cs.size) :
    (results fn tmps).run P w = .ok (.tuple #[.agg cs, tmps.getD u undef, tmps.getD v undef]) w := by
  have hp' : tmps[p]?.getD undef = .pointer (some ⟨b, 0, none⟩) := by simpa using hp
  simp [results, h, hp', asAddr, run_load_whole hB hu hd hsz]
end
end
end Go.Proofs.YtfgmbjdeimallaaGreatDoor
/- A struct loaded out of a known block, by an operation with a guard that says yes. -/
namespace Go.Proofs.YtfgmbjdeimallaaGreatDoor
open Go.RowKit

section
variable {P : Program} {w : World} {ops : Array Oper} {rest : List Oper} {o : Oper} {a : Act} {Q : Exit → Act → World → Prop}

theorem wpList_load_aggG (hw : Region.wanted o (yielded ops a.tmps) = true) (ty : TypeId) (x : Operand) (ho : o.op = .load ty x) (b off n : Nat) (hx : a.eval x = .pointer (some ⟨b, off, none⟩))
    (t : TypeId) (cs : Array Value) (d : TypeDesc) (hB : Blk w b t cs) (hu : P.underlying ty = some d)
    (hd : (match d with | .struct _ | .array _ _ => true | _ => false) = true) (hsz : (P.info? ty).map (·.size) = some n) (hfit : off + n ≤ cs.size)
    (vs : Array Value) (hvs : ((cs.toList.drop off).take n).toArray = vs) (h : wpList P ops Q rest (a.put o.dst (.agg vs)) w) : wpList P ops Q (o :: rest) a w := by
  refine BigFrame.wpList_want hw fun K hK => ?_
  have hr := run_load_part (P := P) b off n t ty cs d hB hu hd hsz hfit
  rw [hvs] at hr
  unfold Oper.wp execOp
  simp only [ho, hx, Instr.loadAt, Instr.sureAddr, Sem.run_bind, Sem.run_pure, Result.andThen_ok, hr, Oper.upon]
  exact hK _ _ h
end
end Go.Proofs.YtfgmbjdeimallaaGreatDoor
