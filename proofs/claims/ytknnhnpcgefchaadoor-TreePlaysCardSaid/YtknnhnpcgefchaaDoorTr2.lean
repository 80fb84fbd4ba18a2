/- copy and append of zeros, on slices of elements of any size. -/
import Derived.Test.YtknnhnpcgefchaaDoorBy
import Derived.Test.YtknnhnpcgefchaaDoorLaws
import Derived.Lib.AppendZeros
import Derived.Lib.Overlaps
import Derived.Laws.CopyRow
import Derived.Deep.Cut
import Derived.Deep.RegionLaw
import Derived.Test.YtknnhnpcgefchaaDoorReg2
namespace Go.Proofs.YtknnhnpcgefchaaDoor
open Go.RowKit Go.Lib

section
variable {P : Program}

/-- cells o and on are written over -/
def overlay (cur : Array Value) (o : Nat) (vs : List Value) : Array Value := (cur.toList.take o ++ vs ++ cur.toList.drop (o + vs.length)).toArray
theorem overlay_size {cur : Array Value} {o : Nat} {vs : List Value} (h : o + vs.length ≤ cur.size) : (overlay cur o vs).size = cur.size := by
  simp [overlay]
  omega
theorem overlay_nil (cur : Array Value) (o : Nat) : overlay cur o [] = cur := by simp [overlay]
theorem overlay_list (cur : Array Value) (o : Nat) (vs : List Value) : (overlay cur o vs).toList = cur.toList.take o ++ vs ++ cur.toList.drop (o + vs.length) := by simp [overlay]
/-- what lies ahead, or behind, stays -/
theorem overlay_take {cur : Array Value} {o : Nat} {vs : List Value} (h : o + vs.length ≤ cur.size) {k : Nat} (hk : k ≤ o) : (overlay cur o vs).toList.take k = cur.toList.take k := by
  rw [overlay_list, List.append_assoc, List.take_append_of_le_length (by simp; omega), List.take_take, Nat.min_eq_left hk]
theorem overlay_upto {cur : Array Value} {o : Nat} {vs : List Value} (h : o + vs.length ≤ cur.size) : (overlay cur o vs).toList.take (o + vs.length) = cur.toList.take o ++ vs := by
  rw [overlay_list]
  have e : (cur.toList.take o ++ vs).length = o + vs.length := by simp; omega
  rw [← e, List.take_left]
theorem overlay_seg {cur : Array Value} {o : Nat} {vs : List Value} (h : o + vs.length ≤ cur.size) : ((overlay cur o vs).toList.drop o).take vs.length = vs := by
  rw [overlay_list, List.append_assoc, List.drop_append_of_le_length (by simp; omega), List.drop_of_length_le (by simp; omega), List.nil_append, List.take_left]

/-- two pieces, one behind the other -/
theorem overlay2 {cur : Array Value} {o p q : Nat} {us vs : List Value} (hp : p = o + us.length) (hq : q = p + vs.length) (h : q ≤ cur.size) : (overlay (overlay cur o us) p vs).toList.take q = cur.toList.take o ++ us ++ vs := by
  subst hp
  subst hq
  rw [overlay_upto (by rw [overlay_size (by omega)]; exact h), overlay_upto (by omega)]
/-- the piece behind first -/
theorem overlay2' {cur : Array Value} {o p q : Nat} {us vs : List Value} (hp : p = o + us.length) (hq : q = p + vs.length) (h : q ≤ cur.size) : (overlay (overlay cur p vs) o us).toList.take q = cur.toList.take o ++ us ++ vs := by
  subst hp
  subst hq
  have e1 := overlay_upto (cur := cur) (o := o + us.length) (vs := vs) h
  have hl : (overlay cur (o + us.length) vs).toList = cur.toList.take (o + us.length) ++ vs ++ cur.toList.drop (o + us.length + vs.length) := overlay_list _ _ _
  rw [overlay_list, hl]
  have h1 : (cur.toList.take (o + us.length) ++ vs ++ cur.toList.drop (o + us.length + vs.length)).take o = cur.toList.take o := by
    rw [List.append_assoc, List.take_append_of_le_length (by simp; omega), List.take_take, Nat.min_eq_left (by omega)]
  have h2 : (cur.toList.take (o + us.length) ++ vs ++ cur.toList.drop (o + us.length + vs.length)).drop (o + us.length) = vs ++ cur.toList.drop (o + us.length + vs.length) := by
    rw [List.append_assoc, List.drop_append_of_le_length (by simp; omega), List.drop_of_length_le (by simp; omega), List.nil_append]
  rw [h1, h2, ← List.append_assoc]
  have e : o + us.length + vs.length = (cur.toList.take o ++ us ++ vs).length := by simp; omega
  rw [e, List.take_left]

theorem overlay_behind {cur : Array Value} {o k : Nat} {vs : List Value} (h : o + vs.length ≤ cur.size) (hk : o + vs.length ≤ k) : (overlay cur o vs).toList.drop k = cur.toList.drop k := by
  rw [overlay_list, List.drop_append, List.drop_of_length_le (by simp; omega), List.nil_append, List.drop_drop]
  congr 1
  simp
  omega
/-- a piece of a block that is known whole, as a slice -/
theorem Blk.seg {w : World} {g sz o q c : Nat} {t : TypeId} {cur : Array Value} {ys : List Value} (h : Blk w g t cur) (hy : (cur.toList.drop o).take (q * sz) = ys) (hl : ys.length = q * sz) (h1 : ∀ u ∈ ys, u.oneCell' = true) (hq : q ≤ c) (hc : c ≤ maxLen) :
    Sl w sz (some ⟨g, o, none⟩) q c ys := by
  refine ⟨hl, hq, hc, fun e => (by cases e), fun _ ad e => (by cases e; rfl), ?_, h1⟩
  intro ad e j u hj
  cases e
  rw [h.cell (o + j), ← Array.getElem?_toList]
  rw [← hy, List.getElem?_take] at hj
  split at hj
  · simpa using hj
  · cases hj

theorem run_copy_at (w : World) (dT sT ty elem : TypeId) (i : TypeInfo) (sz : Nat) (g o dLen dCap : Nat) (ao : Option Addr) (sn sc k kc : Nat) (xs : List Value) (cur : Array Value) (t : TypeId)
    (hu : P.underlying dT = some (.slice elem)) (hi : P.info? elem = some i) (hs : i.size = sz)
    (hB : Blk w g t cur) (hk : min sn dLen = k) (hS : Sl w sz ao k kc xs) (hfit : o + xs.length ≤ cur.size) :
    (Builtin.copy_ #[dT, sT] ty #[.slice (some ⟨g, o, none⟩) dLen dCap, .slice ao sn sc]).run P w =
      .ok (goInt k) (w.setRow g (overlay cur o xs)) := by
  subst hs
  have hk' : Nat.min sn dLen = k := hk
  have hf : (Builtin.firstCells i.size k (.slice ao sn sc)).run P w = .ok xs.toArray w := by
    cases ao with
    | none =>
      have hc := hS.nil rfl
      have hcap := hS.cap
      obtain rfl : k = 0 := by omega
      obtain rfl : xs = [] := List.eq_nil_of_length_eq_zero (by simpa using hS.len)
      rfl
    | some ad =>
      have h := run_firstCells_some (P := P) w i.size k ad sn sc xs hS.len fun j u hj => hS.cells rfl j u hj
      exact h
  have hst := run_storeCells_at P g o t xs 0 cur w hB (by simpa using hfit) hS.one
  simp only [Nat.add_zero] at hst
  simp [Builtin.copy_, run_underlying hu, Builtin.lenOf, sizeOf, typeInfo, hi, hf, hst, overlay, hk']

theorem wpList_copy_at (w : World) {ops : Array Oper} {rest : List Oper} {o : Oper} {a : Act} {Q : Exit → Act → World → Prop} (hgd : o.guard = none) (d s : Operand) (dT sT : TypeId)
    (ho : o.op = .call { callee := .builtin .copy, args := #[d, s], argTypes := #[dT, sT] }) (elem : TypeId) (i : TypeInfo) (sz : Nat) (hu : P.underlying dT = some (.slice elem)) (hi : P.info? elem = some i) (hs : i.size = sz)
    (g off dLen dCap : Nat) (hd : a.eval d = .slice (some ⟨g, off, none⟩) dLen dCap) (ao : Option Addr) (sn sc : Nat) (hx : a.eval s = .slice ao sn sc)
    (t : TypeId) (cur : Array Value) (hB : Blk w g t cur) (k kc : Nat) (hk : min sn dLen = k) (xs : List Value) (hS : Sl w sz ao k kc xs) (hfit : off + xs.length ≤ cur.size)
    (h : ∀ w', Blk w' g t (overlay cur off xs) → Keeps [g] w w' → wpList P ops Q rest (a.put o.dst (goInt k)) w') : wpList P ops Q (o :: rest) a w := by
  refine wpList_plain hgd fun K hK => ?_
  unfold Oper.wp execOp
  simp only [ho, resolve, invoke, builtin, Sem.run_bind, Sem.run_pure, Result.andThen_ok, List.map_toArray, List.map_cons, List.map_nil, hd, hx, run_copy_at w dT sT o.type elem i sz g off dLen dCap ao sn sc k kc xs cur t hu hi hs hB hk hS hfit]
  exact hK _ _ (h _ (hB.row _) (Keeps.row w g _))

theorem step_copy_at {ops : Array Oper} {o : Oper} {a : Act} {w : World} {K : Act → World → Prop} {Q : Exit → Act → World → Prop} {E : Prop} (hgd : o.guard = none) (d s : Operand) (dT sT : TypeId)
    (ho : o.op = .call { callee := .builtin .copy, args := #[d, s], argTypes := #[dT, sT] }) (elem : TypeId) (i : TypeInfo) (sz : Nat) (hu : P.underlying dT = some (.slice elem)) (hi : P.info? elem = some i) (hs : i.size = sz)
    (g off dLen dCap : Nat) (hd : a.eval d = .slice (some ⟨g, off, none⟩) dLen dCap) (ao : Option Addr) (sn sc : Nat) (hx : a.eval s = .slice ao sn sc)
    (t : TypeId) (cur : Array Value) (hB : Blk w g t cur) (k kc : Nat) (hk : min sn dLen = k) (xs : List Value) (hS : Sl w sz ao k kc xs) (hfit : off + xs.length ≤ cur.size)
    (h : ∀ w', Blk w' g t (overlay cur off xs) → Keeps [g] w w' → K (a.put o.dst (goInt k)) w') :
    if Region.wanted o (yielded ops a.tmps) = true then Oper.wp P o a w K Q else E := by
  have hw : Region.wanted o (yielded ops a.tmps) = true := by simp [Region.wanted, hgd]
  rw [if_pos hw]
  unfold Oper.wp execOp
  simp only [ho, resolve, invoke, builtin, Sem.run_bind, Sem.run_pure, Result.andThen_ok, List.map_toArray, List.map_cons, List.map_nil, hd, hx, run_copy_at w dT sT o.type elem i sz g off dLen dCap ao sn sc k kc xs cur t hu hi hs hB hk hS hfit]
  exact h _ (hB.row _) (Keeps.row w g _)

theorem run_load_runR {w : World} (ty : TypeId) (b off : Nat) (vs : List Value) (hc : ∀ j v, vs[j]? = some v → w.cell? ⟨b, off + j, none⟩ = some v) (d : TypeDesc) (hu : P.underlying ty = some d)
    (hd : (match d with | .struct _ | .array _ _ => true | _ => false) = true) (hsz : (P.info? ty).map (·.size) = some vs.length) : (loadVar ty ⟨b, off, none⟩).run P w = .ok (.agg vs.toArray) w := by
  have hl := run_loadCells_list (P := P) (w := w) ⟨b, off, none⟩ vs (fun j v hv => by
    have hadd : (⟨b, off, none⟩ : Addr).add j = ⟨b, off + j, none⟩ := by unfold Addr.add; split <;> simp_all
    rw [hadd]
    exact hc j v hv)
  cases hq : P.info? ty with
  | none => simp [hq] at hsz
  | some i =>
    have hi : i.size = vs.length := by simpa [hq] using hsz
    have hagg : (isAgg ty).run P w = .ok true w := by
      unfold isAgg
      rw [Sem.run_bind, run_underlying hu w]
      cases d <;> simp_all
    simp [loadVar, Sem.run_bind, hagg, sizeOf, typeInfo, hq, hi, hl]
/-- a struct out of a run of cells, as an operation that may be guarded -/
theorem wpList_load_runG {ops : Array Oper} {rest : List Oper} {o : Oper} {a : Act} {w : World} {Q : Exit → Act → World → Prop} (hw : Region.wanted o (yielded ops a.tmps) = true) (ty : TypeId) (x : Operand) (ho : o.op = .load ty x) (b off : Nat) (hx : a.eval x = .pointer (some ⟨b, off, none⟩))
    (vs : List Value) (hc : ∀ j v, vs[j]? = some v → w.cell? ⟨b, off + j, none⟩ = some v) (d : TypeDesc) (hu : P.underlying ty = some d)
    (hd : (match d with | .struct _ | .array _ _ => true | _ => false) = true) (hsz : (P.info? ty).map (·.size) = some vs.length)
    (h : wpList P ops Q rest (a.put o.dst (.agg vs.toArray)) w) : wpList P ops Q (o :: rest) a w := by
  refine BigFrame.wpList_want hw fun K hK => ?_
  have hr := run_load_runR (P := P) ty b off vs hc d hu hd hsz
  unfold Oper.wp execOp
  simp only [ho, hx, Instr.loadAt, Instr.sureAddr, Sem.run_bind, Sem.run_pure, Result.andThen_ok, hr, Oper.upon]
  exact hK _ _ h
/-- .. and in a region that draws -/
theorem yields_runR {w : World} {o : Oper} {a : Act} (ty : TypeId) (x : Operand) (ho : o.op = .load ty x) (b off : Nat) (hx : a.eval x = .pointer (some ⟨b, off, none⟩))
    (vs : List Value) (hc : ∀ j v, vs[j]? = some v → w.cell? ⟨b, off + j, none⟩ = some v) (d : TypeDesc) (hu : P.underlying ty = some d)
    (hd : (match d with | .struct _ | .array _ _ => true | _ => false) = true) (hsz : (P.info? ty).map (·.size) = some vs.length) : (execOp a.eval o).run P w = .ok (.value (.agg vs.toArray)) w := by
  have hr := run_load_runR (P := P) (w := w) ty b off vs hc d hu hd hsz
  unfold execOp
  simp only [ho, hx, Instr.loadAt, Instr.sureAddr, Sem.run_bind, Sem.run_pure, Result.andThen_ok, hr]

theorem zeroCells_one {z : Array Value} (h : ∀ v ∈ z.toList, v.oneCell' = true) (hz : 0 < z.size) (n : Nat) : ∀ v ∈ (Builtin.zeroCells z n).toList, v.oneCell' = true := by
  intro v hv
  unfold Builtin.zeroCells at hv
  simp only [Array.toList_map, List.mem_map] at hv
  obtain ⟨j, _, rfl⟩ := hv
  have hlt : j % z.size < z.size := Nat.mod_lt _ hz
  rw [getElem!_pos z (j % z.size) hlt]
  exact h _ (Array.getElem_mem_toList _)

/-- clear of q elements -/
theorem run_clear_at (w : World) (t ty e : TypeId) (i : TypeInfo) (z : Value) (sz : Nat) (g o q c : Nat) (cur : Array Value) (t' : TypeId) (hu : P.underlying t = some (.slice e)) (hi : P.info? e = some i) (hz : i.zero = some z) (hs : z.cells.size = sz) (h0 : 0 < sz)
    (h1 : ∀ v ∈ z.cells.toList, v.oneCell' = true) (hB : Blk w g t' cur) (hfit : o + q * sz ≤ cur.size) :
    (Builtin.clear_ #[t] ty #[.slice (some ⟨g, o, none⟩) q c]).run P w = .ok (.tuple #[]) (w.setRow g (overlay cur o (Builtin.zeroCells z.cells q).toList)) := by
  have hzl : (Builtin.zeroCells z.cells q).toList.length = q * sz := by rw [Array.length_toList, size_zeroCells, hs]
  cases q with
  | zero =>
    have he : (Builtin.zeroCells z.cells 0).toList = [] := List.eq_nil_of_length_eq_zero (by rw [hzl]; simp)
    rw [he, overlay_nil, setRow_self w g cur t' (0, 0) hB]
    simp [Builtin.clear_, run_underlying hu]
  | succ q =>
    have hst := run_storeCells_at P g o t' (Builtin.zeroCells z.cells (q + 1)).toList 0 cur w hB (by rw [hzl]; simpa using hfit) (zeroCells_one h1 (by omega) _)
    simp only [Nat.add_zero] at hst
    have hv : (zeroValue e).run P w = .ok z w := by simp [zeroValue, typeInfo, hi, hz]
    simp [Builtin.clear_, run_underlying hu, hv, hst, overlay]
theorem wpList_clear_at (w : World) {ops : Array Oper} {rest : List Oper} {o : Oper} {a : Act} {Q : Exit → Act → World → Prop} (hgd : o.guard = none) (x : Operand) (t : TypeId)
    (ho : o.op = .call { callee := .builtin .clear, args := #[x], argTypes := #[t] }) (e : TypeId) (i : TypeInfo) (z : Value) (sz : Nat) (hu : P.underlying t = some (.slice e)) (hi : P.info? e = some i) (hz : i.zero = some z) (hs : z.cells.size = sz) (h0 : 0 < sz)
    (h1 : ∀ v ∈ z.cells.toList, v.oneCell' = true) (g off q c : Nat) (hx : a.eval x = .slice (some ⟨g, off, none⟩) q c) (t' : TypeId) (cur : Array Value) (hB : Blk w g t' cur) (hfit : off + q * sz ≤ cur.size)
    (h : ∀ w' zs, zs.length = q * sz → Blk w' g t' (overlay cur off zs) → Keeps [g] w w' → wpList P ops Q rest (a.put o.dst (.tuple #[])) w') : wpList P ops Q (o :: rest) a w := by
  refine wpList_plain hgd fun K hK => ?_
  unfold Oper.wp execOp
  simp only [ho, resolve, invoke, builtin, Sem.run_bind, Sem.run_pure, Result.andThen_ok, List.map_toArray, List.map_cons, List.map_nil, hx, run_clear_at w t o.type e i z sz g off q c cur t' hu hi hz hs h0 h1 hB hfit]
  exact hK _ _ (h _ _ (by rw [Array.length_toList, size_zeroCells, hs]) (hB.row _) (Keeps.row w g _))

/-- an append onto what is owned, where there is room -/
theorem own_append_room (w : World) (N : Nat) (t tx ty e : TypeId) (i : TypeInfo) (size : Nat) (h1 : P.underlying t = some (.slice e)) (h2 : P.info? e = some i) (h4 : i.size = size)
    (g n c : Nat) (xs : List Value) (hO : w.ownsRow N e size (.slice (some ⟨g, 0, none⟩) n c) n xs) (y : Value) (m : Nat) (news : List Value) (hs : Src P size tx y m news w) (hroom : n + m ≤ c) (cur : Array Value) (hB : Blk w g e cur) (hcs : cur.size = c * size) :
    ∃ w', (Builtin.append_ #[t, tx] ty #[.slice (some ⟨g, 0, none⟩) n c, y]).run P w = .ok (.slice (some ⟨g, 0, none⟩) (n + m) c) w' ∧ Blk w' g e (overlay cur (n * size) news) ∧ Keeps [g] w w' := by
  subst h4
  have hfit : n * i.size + news.length ≤ cur.size := by rw [hs.newsLen, hcs, ← Nat.add_mul]; exact Nat.mul_le_mul_right _ hroom
  have hst := run_storeCells_at P g (n * i.size) e news 0 cur w hB (by simpa using hfit) hs.one
  simp only [Nat.add_zero] at hst
  refine ⟨w.setRow g (overlay cur (n * i.size) news), ?_, hB.row _, Keeps.row w g _⟩
  have hadd : (⟨g, 0, none⟩ : Addr).add (n * i.size) = ⟨g, n * i.size, none⟩ := by simpa using Addr.add_lit g 0 (n * i.size)
  have hl := hs.len
  have hc := hs.cells
  rcases hs.kind with ⟨e', hk⟩ | hk <;>
    simp [Builtin.append_, run_underlying h1, run_underlying hk, sizeOf, typeInfo, h2, hl, hc, hroom, hadd, hst, overlay]
theorem wpList_append_roomB (w : World) {ops : Array Oper} {rest : List Oper} {o : Oper} {a : Act} {Q : Exit → Act → World → Prop}
    (hg : o.guard = none) (s x : Operand) (t tx : TypeId) (hop : o.op = Op.call { callee := Callee.builtin Builtin.append, args := #[s, x], argTypes := #[t, tx] })
    (N : Nat) (e : TypeId) (i : TypeInfo) (size : Nat) (h1 : P.underlying t = some (.slice e)) (h2 : P.info? e = some i) (h4 : i.size = size)
    (g n c : Nat) (xs : List Value) (hv : a.eval s = .slice (some ⟨g, 0, none⟩) n c) (hO : w.ownsRow N e size (.slice (some ⟨g, 0, none⟩) n c) n xs) (y : Value) (hy : a.eval x = y) (m : Nat) (news : List Value) (hs : Src P size tx y m news w) (hroom : n + m ≤ c) (cur : Array Value) (hB : Blk w g e cur) (hcs : cur.size = c * size)
    (h : ∀ w', Blk w' g e (overlay cur (n * size) news) → Keeps [g] w w' → wpList P ops Q rest (a.put o.dst (.slice (some ⟨g, 0, none⟩) (n + m) c)) w') : wpList P ops Q (o :: rest) a w := by
  refine wpList_plain hg fun K hK => ?_
  obtain ⟨w', hrun, hB', hk⟩ := own_append_room (P := P) w N t tx o.type e i size h1 h2 h4 g n c xs hO y m news hs hroom cur hB hcs
  unfold Oper.wp execOp
  simp only [hop, resolve, invoke, builtin, Sem.run_bind, Sem.run_pure, Result.andThen_ok, List.map_toArray, List.map_cons, List.map_nil, hv, hy, hrun]
  exact hK _ _ (h _ hB' hk)
theorem step_append_roomB {ops : Array Oper} {o : Oper} {a : Act} {w : World} {K : Act → World → Prop} {Q : Exit → Act → World → Prop} {E : Prop}
    (hg : o.guard = none) (s x : Operand) (t tx : TypeId) (hop : o.op = Op.call { callee := Callee.builtin Builtin.append, args := #[s, x], argTypes := #[t, tx] })
    (N : Nat) (e : TypeId) (i : TypeInfo) (size : Nat) (h1 : P.underlying t = some (.slice e)) (h2 : P.info? e = some i) (h4 : i.size = size)
    (g n c : Nat) (xs : List Value) (hv : a.eval s = .slice (some ⟨g, 0, none⟩) n c) (hO : w.ownsRow N e size (.slice (some ⟨g, 0, none⟩) n c) n xs) (y : Value) (hy : a.eval x = y) (m : Nat) (news : List Value) (hs : Src P size tx y m news w) (hroom : n + m ≤ c) (cur : Array Value) (hB : Blk w g e cur) (hcs : cur.size = c * size)
    (h : ∀ w', Blk w' g e (overlay cur (n * size) news) → Keeps [g] w w' → K (a.put o.dst (.slice (some ⟨g, 0, none⟩) (n + m) c)) w') :
    if Region.wanted o (yielded ops a.tmps) = true then Oper.wp P o a w K Q else E := by
  have hw : Region.wanted o (yielded ops a.tmps) = true := by simp [Region.wanted, hg]
  rw [if_pos hw]
  obtain ⟨w', hrun, hB', hk⟩ := own_append_room (P := P) w N t tx o.type e i size h1 h2 h4 g n c xs hO y m news hs hroom cur hB hcs
  unfold Oper.wp execOp
  simp only [hop, resolve, invoke, builtin, Sem.run_bind, Sem.run_pure, Result.andThen_ok, List.map_toArray, List.map_cons, List.map_nil, hv, hy, hrun]
  exact h _ hB' hk

/-- append(s, make([]T, n)...) where there is no room: a new row, what was there ahead of zeros -/
theorem run_append_zeros (w : World) (N : Nat) (t tn ty e : TypeId) (i : TypeInfo) (z : Value) (size bytes : Nat) (kn : IntKind) (ht : P.underlying t = some (.slice e)) (htn : P.underlying tn = some (.int kn)) (hi : P.info? e = some i) (hz : i.zero = some z)
    (hsz : i.size = size) (hby : i.bytes = bytes) (hzc : z.cells.size = size) (h0 : 0 < size)
    (ao : Option Addr) (m c : Nat) (xs : List Value) (hS : Sl w size ao m c xs) (k : IntKind) (n : Nat) (hn : 0 < n) (hg : c < m + n) (b1 : m + n ≤ maxLen) (b2 : (m + n) * bytes ≤ 140737488355328) (hN : N ≤ w.heap.size) :
    ∃ c' w' zs, (Builtin.append_ #[t, tn] ty #[.slice ao m c, .int k n]).run P w = .ok (.slice (some ⟨w.heap.size, 0, none⟩) (m + n) c') w' ∧
      zs.length = n * size ∧ w'.ownsRow N e size (.slice (some ⟨w.heap.size, 0, none⟩) (m + n) c') (m + n) (xs ++ zs) ∧ Keeps [] w w' := by
  subst hsz
  subst hby
  have hb63 : ((m + n : Nat) : Int) ≤ 9223372036854775807 := by have := b1; unfold maxLen at this; omega
  have hw : IntKind.i64.wrap (n : Int) = n := by rw [IntKind.wrap_i64]; omega
  have hneg : ¬ ((n : Int) < 0) := by omega
  have hns : ¬ (n * i.size = 0) := Nat.mul_ne_zero (by omega) (by omega)
  have hnb : n * i.bytes ≤ 140737488355328 := Nat.le_trans (Nat.mul_le_mul_right _ (by omega)) b2
  have h48i : ¬ (281474976710656 < (n : Int) * (i.bytes : Int)) := by
    rw [← Int.natCast_mul]
    omega
  have h48 : ¬ (281474976710656 < Builtin.nextslicecap (m + n) c * i.bytes) := Nat.not_lt.2 (growslice_fits hg b2)
  have hno : ¬ (m + n ≤ c) := by omega
  have h63' : ¬ (9223372036854775807 < ((m : Int) + (n : Int))) := by omega
  have hold : (Builtin.firstCells i.size m (.slice ao m c)).run P w.drew = .ok xs.toArray w.drew := by
    cases ao with
    | none =>
      have hc := hS.nil rfl
      have hcap := hS.cap
      obtain rfl : m = 0 := by omega
      obtain rfl : xs = [] := List.eq_nil_of_length_eq_zero (by simpa using hS.len)
      simpa using run_firstCells_none w.drew i.size 0 0 c
    | some ad => exact run_firstCells_some w.drew i.size _ ad m c _ hS.len fun j u hj => by simpa using hS.cells rfl j u hj
  have hzn : (Builtin.zeroCells z.cells n).size = n * i.size := by rw [size_zeroCells, hzc]
  refine ⟨grownCap w (m + n) c e, w.drew.alloc (.cells (xs.toArray ++ Builtin.zeroCells z.cells n ++ Builtin.zeroCells z.cells (grownCap w (m + n) c e - (m + n))) e), (Builtin.zeroCells z.cells n).toList, ?_, by simpa using hzn, ⟨by rw [List.length_append, hS.len, Array.length_toList, hzn, Nat.add_mul], .inr ⟨w.heap.size, _, _, rfl, hN, heap_alloc_new w.drew _, grownCap_ge w (m + n) c e, grownCap_le_maxLen w (m + n) c e b1, ?_, ?_⟩⟩, ⟨rfl, rfl, rfl, by simp, fun k hk _ => Below.heap_alloc w.drew _ k hk⟩⟩
  · simp [Builtin.append_, run_underlying ht, run_underlying htn, sizeOf, typeInfo, zeroValue, hi, hz, asInt, asIntOf, hw, hneg, hns, hno, h63', h48, h48i, hold, Question.forced, newRow, grownCap]
  · have := grownCap_ge w (m + n) c e
    simp only [Array.size_append, List.size_toArray, size_zeroCells, hzc, hS.len, ← Nat.add_mul]
    congr 1
    omega
  · simp only [Array.toList_append]
    have : (m + n) * i.size = (xs ++ (Builtin.zeroCells z.cells n).toList).length := by rw [List.length_append, hS.len, Array.length_toList, hzn, Nat.add_mul]
    rw [this]
    exact List.take_left

theorem wpList_append_zeros (w : World) {ops : Array Oper} {rest : List Oper} {o : Oper} {a : Act} {Q : Exit → Act → World → Prop}
    (hgd : o.guard = none) (s x : Operand) (t tn : TypeId) (hop : o.op = Op.call { callee := Callee.builtin Builtin.append, args := #[s, x], argTypes := #[t, tn] })
    (N : Nat) (e : TypeId) (i : TypeInfo) (z : Value) (size bytes : Nat) (kn : IntKind) (ht : P.underlying t = some (.slice e)) (htn : P.underlying tn = some (.int kn)) (hi : P.info? e = some i) (hz : i.zero = some z)
    (hsz : i.size = size) (hby : i.bytes = bytes) (hzc : z.cells.size = size) (h0 : 0 < size)
    (ao : Option Addr) (m c : Nat) (hv : a.eval s = .slice ao m c) (xs : List Value) (hS : Sl w size ao m c xs) (k : IntKind) (n : Nat) (hx : a.eval x = .int k n) (hn : 0 < n) (hg : c < m + n) (b1 : m + n ≤ maxLen) (b2 : (m + n) * bytes ≤ 140737488355328) (hN : N ≤ w.heap.size)
    (h : ∀ c' w' zs, zs.length = n * size → w'.ownsRow N e size (.slice (some ⟨w.heap.size, 0, none⟩) (m + n) c') (m + n) (xs ++ zs) → Keeps [] w w' → wpList P ops Q rest (a.put o.dst (.slice (some ⟨w.heap.size, 0, none⟩) (m + n) c')) w') :
    wpList P ops Q (o :: rest) a w := by
  refine wpList_plain hgd fun K hK => ?_
  obtain ⟨c', w', zs, hr, h1, h2, h3⟩ := run_append_zeros (P := P) w N t tn o.type e i z size bytes kn ht htn hi hz hsz hby hzc h0 ao m c xs hS k n hn hg b1 b2 hN
  unfold Oper.wp execOp
  simp only [hop, resolve, invoke, builtin, Sem.run_bind, Sem.run_pure, Result.andThen_ok, List.map_toArray, List.map_cons, List.map_nil, hv, hx, hr]
  exact hK _ _ (h c' w' zs h1 h2 h3)

theorem own_lt {w : World} {N sz n c : Nat} {e : TypeId} {ao : Option Addr} {xs : List Value} (h : w.ownsRow N e sz (.slice ao n c) n xs) : ∀ x ∈ blks ao, N ≤ x ∧ x < w.heap.size := by
  intro x hx
  cases ao with
  | none => simp at hx
  | some ad =>
    simp only [blks, List.mem_singleton] at hx
    subst hx
    exact World.ownsRow.lt h _ rfl
theorem own_keep {w w' : World} {N sz n c : Nat} {e : TypeId} {ao : Option Addr} {xs : List Value} {L : List Nat} (h : w.ownsRow N e sz (.slice ao n c) n xs) (hk : Keeps L w w') (hL : ∀ x ∈ blks ao, x ∉ L) : w'.ownsRow N e sz (.slice ao n c) n xs := by
  refine ⟨h.1, ?_⟩
  rcases h.2 with h0 | ⟨g, cap, cur, he, hb, hg, rest⟩
  · exact .inl h0
  · simp only [Value.slice.injEq] at he
    obtain ⟨rfl, _, rfl⟩ := he
    exact .inr ⟨g, c, cur, rfl, hb, (hk.block g (Array.getElem?_eq_some_iff.1 hg).1 (hL g (by simp))).trans hg, rest⟩
theorem own_older {w : World} {N N' sz n c : Nat} {e : TypeId} {ao : Option Addr} {xs : List Value} (h : w.ownsRow N e sz (.slice ao n c) n xs) (hN : N' ≤ N) : w.ownsRow N' e sz (.slice ao n c) n xs := by
  refine ⟨h.1, ?_⟩
  rcases h.2 with h0 | ⟨g, cap, cur, he, hb, rest⟩
  · exact .inl h0
  · exact .inr ⟨g, cap, cur, he, Nat.le_trans hN hb, rest⟩
theorem own_take {w : World} {N sz n c k : Nat} {e : TypeId} {ao : Option Addr} {xs : List Value} (h : w.ownsRow N e sz (.slice ao n c) n xs) (hk : k ≤ n) : w.ownsRow N e sz (.slice ao k c) k (xs.take (k * sz)) := by
  have hle : k * sz ≤ n * sz := Nat.mul_le_mul_right _ hk
  refine ⟨by rw [List.length_take, h.1]; omega, ?_⟩
  rcases h.2 with ⟨he, _⟩ | ⟨g, cap, cur, he, hb, hg, hnc, hcm, hcs, ht⟩
  · simp only [Value.slice.injEq] at he
    obtain ⟨rfl, rfl, rfl⟩ := he
    obtain rfl : k = 0 := by omega
    exact .inl ⟨rfl, rfl⟩
  · simp only [Value.slice.injEq] at he
    obtain ⟨rfl, _, rfl⟩ := he
    refine .inr ⟨g, c, cur, rfl, hb, hg, by omega, hcm, hcs, ?_⟩
    rw [← ht, List.take_take, Nat.min_eq_left hle]
theorem own_read {w : World} {N sz n c : Nat} {e : TypeId} {ao : Option Addr} {xs : List Value} (h : w.ownsRow N e sz (.slice ao n c) n xs) (h1 : ∀ u ∈ xs, u.oneCell' = true) : Sl w sz ao n c xs := by
  obtain ⟨ao', c', he, hS, _⟩ := own_sl h h1
  simp only [Value.slice.injEq, true_and] at he
  obtain ⟨rfl, rfl⟩ := he
  exact hS
/-- a row that is owned, as a block -/
theorem ownsRow_blk {w : World} {N sz n c : Nat} {e : TypeId} {ao : Option Addr} {xs : List Value} (h : w.ownsRow N e sz (.slice ao n c) n xs) (hn : 0 < n) (_hs : 0 < sz) :
    ∃ g cur, ao = some ⟨g, 0, none⟩ ∧ N ≤ g ∧ Blk w g e cur ∧ cur.size = c * sz ∧ n ≤ c ∧ c ≤ maxLen ∧ cur.toList.take (n * sz) = xs := by
  rcases h.2 with ⟨_, h0⟩ | ⟨g, cap, cur, he, hb, hg, hnc, hcm, hcs, ht⟩
  · omega
  · simp only [Value.slice.injEq] at he
    obtain ⟨rfl, _, rfl⟩ := he
    exact ⟨g, cur, rfl, hb, hg, hcs, hnc, hcm, ht⟩
theorem Blk.shape {w : World} {g : Nat} {t : TypeId} {cs : Array Value} (h : Blk w g t cs) : w.shape? g = some (t, cs.size) := by
  unfold Blk at h
  simp [World.shape?, h]
theorem Blk.owns {w : World} {N g sz n c : Nat} {e : TypeId} {cur : Array Value} {xs : List Value} (hB : Blk w g e cur) (hN : N ≤ g) (hs : cur.size = c * sz) (hn : n ≤ c) (hc : c ≤ maxLen) (hx : cur.toList.take (n * sz) = xs) :
    w.ownsRow N e sz (.slice (some ⟨g, 0, none⟩) n c) n xs := by
  refine ⟨?_, .inr ⟨g, c, cur, rfl, hN, hB, hn, hc, hs, hx⟩⟩
  rw [← hx, List.length_take, Array.length_toList, hs]
  exact Nat.min_eq_left (Nat.mul_le_mul_right _ hn)
end
end Go.Proofs.YtknnhnpcgefchaaDoor
