/- Msg. -/
import Derived.Test.YtllcidpmdmacjaaDoorWmd
import Derived.Test.YtllcidpmdmacjaaDoorWy
import Derived.Test.YtllcidpmdmacjaaDoorWmf
import Derived.Test.YtllcidpmdmacjaaDoorLit

namespace Go.Proofs.YtllcidpmdmacjaaDoor
open Go.RowKit Go.Lib

def zeroMd : Md := ⟨0, 0, 0, 0, 0, 0, [], 0, 0, false, 0, [], false, 0, 0, ⟨#[]⟩, 0, 0, [], [], 0, 0, 0⟩
def zeroMa : Ma := ⟨none, 0, none, 0, none, 0, none, 0⟩
theorem zero_at (w : World) : MsgAt w zeroMd zeroMa := ⟨Sl.none _ _, Sl.none _ _, Sl.none _ _, [], rfl, Sl.none _ _, fun _ h => by cases h⟩
theorem natEq1 (n : Nat) : ((n : Int) == 1) = (n == 1) := by
  rw [Bool.eq_iff_iff]
  simp
  omega
theorem bytes_len (s : St) (n : Nat) : (s.bytes n).1.length ≤ n := by
  unfold St.bytes
  split
  · simp
  split
  · simp; omega
  · simp
theorem ownsRow_older {w : World} {N N' sz n c : Nat} {e : TypeId} {ao : Option Addr} {xs : List Value} (h : w.ownsRow N e sz (.slice ao n c) n xs) (hN : N' ≤ N) : w.ownsRow N' e sz (.slice ao n c) n xs := by
  refine ⟨h.1, ?_⟩
  rcases h.2 with h0 | ⟨g, cap, cur, he, hb, rest⟩
  · exact .inl h0
  · exact .inr ⟨g, cap, cur, he, Nat.le_trans hN hb, rest⟩
set_option maxRecDepth 100000 in
theorem beq_any (ao bo : Option Addr) (c d : Nat) (l m : List UInt8) (w : World) (h : Rb w ao c l) (h' : Rb w bo d m) :
    Calls Tryd.prog 45 #[.slice ao l.length c, .slice bo m.length d] w fun e w' => e = .returned (.bool (l == m)) ∧ w' = w := by
  have r1 := run_text h 34 9 Tryd.underlying34 Tryd.underlying9
  have r2 := run_text h' 34 9 Tryd.underlying34 Tryd.underlying9
  go_enter Tryd.func45, Tryd.ntmps45
  go_wp2_with fail
  go_ret
  exact ⟨rfl, rfl⟩
theorem ErrQ.bad {w : World} {ev : Value} {f : Nat} (h : ErrQ w ev f) (h0 : f ≠ 0) : ∃ t v, ev = .iface t v := by
  cases h with
  | base h => exact h.bad h0
  | placed he _ _ _ => exact ⟨_, _, he⟩
theorem ErrQ.zero {w : World} {ev : Value} {f : Nat} (h : ErrQ w ev f) : ev = .nilIface ↔ f = 0 := by
  cases h with
  | base h => exact h.zero
  | placed he _ _ h0 => subst he; simp [h0]
theorem take23 (cs : Array Value) (h : cs.size = 23) : ((cs.toList.drop 0).take 23).toArray = cs := by
  rw [List.drop_zero, List.take_of_length_le (by simp; omega)]
theorem store23 (cs : Array Value) (h : cs.size = 23) : ((#[.int .i64 0, .int .i64 0, .int .i64 0, .int .u64 0, .int .u64 0, .int .u64 0, .slice none 0 0, .int .u64 0, .int .u64 0, .bool false, .int .i64 0, .slice none 0 0, .bool false, .int .u64 0, .int .u64 0, .string ⟨#[]⟩, .int .u64 0, .int .i64 0, .slice none 0 0, .slice none 0 0, .int .i64 0, .int .u64 0, .int .i64 0] : Array Value).toList.take 0 ++ cs.toList ++ (#[.int .i64 0, .int .i64 0, .int .i64 0, .int .u64 0, .int .u64 0, .int .u64 0, .slice none 0 0, .int .u64 0, .int .u64 0, .bool false, .int .i64 0, .slice none 0 0, .bool false, .int .u64 0, .int .u64 0, .string ⟨#[]⟩, .int .u64 0, .int .i64 0, .slice none 0 0, .slice none 0 0, .int .i64 0, .int .u64 0, .int .i64 0] : Array Value).toList.drop (0 + cs.toList.length)).toArray = cs := by
  rw [List.drop_eq_nil_of_le (by simp; omega)]
  simp
theorem MSt.fin {w0 w w' : World} {xb r mb : Nat} {s : St} {d : Md} {a : Ma} (h : MSt w0 w xb r mb s d a) (hk : Keeps [xb] w w') (hw : ∀ l ∈ d.rows, ∀ v ∈ l, (Lit.int .i64 v.int).wf = true) : MsgAt w' d a := by
  obtain ⟨l, q1, q2, q3⟩ := h.or
  have oe := own_of_one h.oe h.bx (by decide) hk
  have od := own_of_one h.od h.bx (by decide) hk
  have oc := own_of_one h.oc h.bx (by decide) hk
  have o2 := own_of_one q2 h.bx (by decide) hk
  have o3 : ∀ q ∈ l, OwnV w' xb q.a q.c q.l := fun q hq => own_of_one (q3 q hq) h.bx (by decide) hk
  exact ⟨OwnE.re oe, Own.rb od, OwnS.rc oc, l, q1, OwnR.rr o2, fun q hq => ⟨(o3 q hq).rv, hw q.l (q1 ▸ List.mem_map_of_mem hq)⟩⟩
theorem MSt.fin2 {w0 w w' w'' : World} {xb r mb b : Nat} {s : St} {d : Md} {a : Ma} (h : MSt w0 w xb r mb s d a) (hk : Keeps [xb] w w') (hw : ∀ l ∈ d.rows, ∀ v ∈ l, (Lit.int .i64 v.int).wf = true) (hb : b < xb) (hk2 : Keeps [b] w' w'') : MsgAt w'' d a := by
  obtain ⟨l, q1, q2, q3⟩ := h.or
  have oe := own_of_one h.oe h.bx (by decide) hk
  have od := own_of_one h.od h.bx (by decide) hk
  have oc := own_of_one h.oc h.bx (by decide) hk
  have o2 := own_of_one q2 h.bx (by decide) hk
  have o3 : ∀ q ∈ l, OwnV w' xb q.a q.c q.l := fun q hq => own_of_one (q3 q hq) h.bx (by decide) hk
  have pe := ownsRow_keep oe hk2 (fun x hx => by have := (ownsRow_lt oe x hx).1; simp; omega)
  have pd := ownsRow_keep od hk2 (fun x hx => by have := (ownsRow_lt od x hx).1; simp; omega)
  have pc := ownsRow_keep oc hk2 (fun x hx => by have := (ownsRow_lt oc x hx).1; simp; omega)
  have p2 := ownsRow_keep o2 hk2 (fun x hx => by have := (ownsRow_lt o2 x hx).1; simp; omega)
  have p3 : ∀ q ∈ l, OwnV w'' xb q.a q.c q.l := fun q hq => ownsRow_keep (o3 q hq) hk2 (fun x hx => by have := (ownsRow_lt (o3 q hq) x hx).1; simp; omega)
  exact ⟨OwnE.re pe, Own.rb pd, OwnS.rc pc, l, q1, OwnR.rr p2, fun q hq => ⟨(p3 q hq).rv, hw q.l (q1 ▸ List.mem_map_of_mem hq)⟩⟩
theorem Tryd.sizeRP : (Tryd.prog.info? 41).map (·.size) = some 6 := by kernel_rfl
theorem built_R (x1 x0 x3 : Int) : Tryd.prog.built 41 [(0, .int .u64 x0), (1, .int .i64 x1), (3, .int .u64 x3)] = some #[.int .u64 x0, .int .i64 x1, .slice none 0 0, .slice none 0 0, .int .i64 0, .int .u64 x3] := by kernel_rfl
theorem built_Z : Tryd.prog.built 43 [] = some #[.int .i64 0, .int .i64 0, .int .i64 0, .int .u64 0, .int .u64 0, .int .u64 0, .slice none 0 0, .int .u64 0, .int .u64 0, .bool false, .int .i64 0, .slice none 0 0, .bool false, .int .u64 0, .int .u64 0, .string ⟨#[]⟩, .int .u64 0, .int .i64 0, .slice none 0 0, .slice none 0 0, .int .i64 0, .int .u64 0, .int .i64 0] := by kernel_rfl
/-- cells of the message are set; its lists are others -/
theorem MSt.turn {w0 w w' : World} {xb r mb : Nat} {s : St} {d d' : Md} {a a' : Ma} (h : MSt w0 w xb r mb s d a) (hB : Blk w' mb 43 (msgCells d' a')) (hk : Keeps [mb] w w')
    (od : Own w xb a'.da a'.dc d'.data) (oe : OwnE w xb a'.ea a'.ec d'.es) (oc : OwnS w xb a'.ca a'.cc d'.cols) (or : ∃ l : List Ro, l.map (·.l) = d'.rows ∧ OwnR w xb a'.ra a'.rc l ∧ ∀ q ∈ l, OwnV w xb q.a q.c q.l) : MSt w0 w' xb r mb s d' a' := by
  obtain ⟨l, q1, q2, q3⟩ := or
  have hk0 := h.k0
  have hxm := h.xm
  exact ⟨h.rd.keepV h.bm hk (fun e => h.mr e.symm) h.xm (by decide), h.bx.keep hk (by simpa using fun e => h.mx e.symm), hB, own_of_one od h.bm (by decide) hk, own_of_one oe h.bm (by decide) hk, own_of_one oc h.bm (by decide) hk,
    ⟨l, q1, own_of_one q2 h.bm (by decide) hk, fun q hq => own_of_one (q3 q hq) h.bm (by decide) hk⟩, h.ks.step hk (fun x hx => by simp at hx; right; omega), h.k0, h.rx, h.mr, h.mx, h.xr, h.xm⟩
theorem reply_cells (d : Md) (a : Ma) (x0 x3 : Nat) (x1 : Int) : ((msgCells d a).toList.take 16 ++ ([.int .u64 (x0 : Int), .int .i64 x1, .slice none 0 0, .slice none 0 0, .int .i64 0, .int .u64 (x3 : Int)] : List Value) ++ (msgCells d a).toList.drop (16 + 6)).toArray =
    msgCells { d with rseq := x0, rcl := x1, cols := [], rows := [], count := 0, rindex := x3 } { a with ca := none, cc := 0, ra := none, rc := 0 } := rfl
theorem cell6 {w : World} {mb : Nat} {d : Md} {a : Ma} (h : Blk w mb 43 (msgCells d a)) : w.cell? ⟨mb, 6, none⟩ = some (.slice a.ea d.es.length a.ec) := by rw [h.cell]; simp [msgCells]
theorem cell18 {w : World} {mb : Nat} {d : Md} {a : Ma} (h : Blk w mb 43 (msgCells d a)) : w.cell? ⟨mb, 18, none⟩ = some (.slice a.ca d.cols.length a.cc) := by rw [h.cell]; simp [msgCells]
theorem cell19 {w : World} {mb : Nat} {d : Md} {a : Ma} (h : Blk w mb 43 (msgCells d a)) : w.cell? ⟨mb, 19, none⟩ = some (.slice a.ra d.rows.length a.rc) := by rw [h.cell]; simp [msgCells]
theorem cell20 {w : World} {mb : Nat} {d : Md} {a : Ma} (h : Blk w mb 43 (msgCells d a)) : w.cell? ⟨mb, 20, none⟩ = some (.int .i64 d.count) := by rw [h.cell]; simp [msgCells]
theorem one_read {i : Nat} {F : World → Prop} {w : World} (h : F w) : ∀ p ∈ [(i, F)], p.2 w := by
  intro p hp
  simp only [List.mem_singleton] at hp
  subst hp
  exact h
theorem built_M (x0 x1 x2 x17 x10 x3 x4 x5 x7 x8 x13 x14 : Int) (b1 b2 : Bool) (s : ByteArray) : Tryd.prog.built 43 [(0, .int .i64 x0), (9, .bool b1), (12, .bool b2), (1, .int .i64 x1), (2, .int .i64 x2), (17, .int .i64 x17), (3, .int .u64 x3), (4, .int .u64 x4), (5, .int .u64 x5), (7, .int .u64 x7), (8, .int .u64 x8), (10, .int .i64 x10), (13, .int .u64 x13), (14, .int .u64 x14), (15, .string s)] =
    some #[.int .i64 x0, .int .i64 x1, .int .i64 x2, .int .u64 x3, .int .u64 x4, .int .u64 x5, .slice none 0 0, .int .u64 x7, .int .u64 x8, .bool b1, .int .i64 x10, .slice none 0 0, .bool b2, .int .u64 x13, .int .u64 x14, .string s, .int .u64 0, .int .i64 0, .slice none 0 0, .slice none 0 0, .int .i64 0, .int .u64 0, .int .i64 x17] := by kernel_rfl
/-- Msg under way, ahead of the message: the reader, the result -/
structure RSt (w0 w : World) (xb r : Nat) (s : St) : Prop where
  rd : RdAt xb w r s
  bx : Blk w xb 43 #[.int .i64 0, .int .i64 0, .int .i64 0, .int .u64 0, .int .u64 0, .int .u64 0, .slice none 0 0, .int .u64 0, .int .u64 0, .bool false, .int .i64 0, .slice none 0 0, .bool false, .int .u64 0, .int .u64 0, .string ⟨#[]⟩, .int .u64 0, .int .i64 0, .slice none 0 0, .slice none 0 0, .int .i64 0, .int .u64 0, .int .i64 0]
  ks : Keeps [] w0 w
  hx : r ≠ xb
  hw : w0.heap.size ≤ r
theorem RSt.step {w0 w w' : World} {xb r : Nat} {s s' : St} (h : RSt w0 w xb r s) (hr : RdAt xb w' r s') (hk : Keeps [r] w w') : RSt w0 w' xb r s' :=
  ⟨hr, h.bx.keep hk (by simpa using fun e => h.hx e.symm), h.ks.step hk (fun y hy => by simp at hy; subst hy; exact .inr h.hw), h.hx, h.hw⟩
/-- Msg takes bytes -/
def MsgOk (l : List UInt8) : Prop := (rdMsg ⟨l, 0, 0⟩).2.f = 0 ∧ (rdMsg ⟨l, 0, 0⟩).2.l = [] ∧ (rdMsg ⟨l, 0, 0⟩).1.may = true ∧ putMd (rdMsg ⟨l, 0, 0⟩).1 = l

set_option maxRecDepth 100000 in
set_option maxHeartbeats 4000000 in
theorem msg_any (ao : Option Addr) (c : Nat) (l : List UInt8) (w : World) (h : Rb w ao c l) (hll : l.length ≤ 100000000) :
    Calls Tryd.prog 22 #[.slice ao l.length c] w fun e w' => ∃ d a ev, e = .returned (.tuple #[.agg (msgCells d a), ev]) ∧ MsgAt w' d a ∧ (∀ b w'', b < w.heap.size → Keeps [b] w' w'' → MsgAt w'' d a) ∧ Keeps [] w w' ∧
      ((ev = .nilIface ∧ MsgOk l ∧ d = (rdMsg ⟨l, 0, 0⟩).1) ∨ (ErrF w' ev 20 ∧ ¬ MsgOk l ∧ d = zeroMd ∧ a = zeroMa)) := by
  have hX := Blk.fresh w 43 #[.int .i64 0, .int .i64 0, .int .i64 0, .int .u64 0, .int .u64 0, .int .u64 0, .slice none 0 0, .int .u64 0, .int .u64 0, .bool false, .int .i64 0, .slice none 0 0, .bool false, .int .u64 0, .int .u64 0, .string ⟨#[]⟩, .int .u64 0, .int .i64 0, .slice none 0 0, .slice none 0 0, .int .i64 0, .int .u64 0, .int .i64 0]
  have hkx := (Keeps.refl [] w).alloc (.cells #[.int .i64 0, .int .i64 0, .int .i64 0, .int .u64 0, .int .u64 0, .int .u64 0, .slice none 0 0, .int .u64 0, .int .u64 0, .bool false, .int .i64 0, .slice none 0 0, .bool false, .int .u64 0, .int .u64 0, .string ⟨#[]⟩, .int .u64 0, .int .i64 0, .slice none 0 0, .slice none 0 0, .int .i64 0, .int .u64 0, .int .i64 0] 43)
  have hxl : (w.alloc (.cells #[.int .i64 0, .int .i64 0, .int .i64 0, .int .u64 0, .int .u64 0, .int .u64 0, .slice none 0 0, .int .u64 0, .int .u64 0, .bool false, .int .i64 0, .slice none 0 0, .bool false, .int .u64 0, .int .u64 0, .string ⟨#[]⟩, .int .u64 0, .int .i64 0, .slice none 0 0, .slice none 0 0, .int .i64 0, .int .u64 0, .int .i64 0] 43)).heap.size = w.heap.size + 1 := by simp
  have hS1 := h.keep0 hkx
  unfold MsgOk
  obtain ⟨X, hX0⟩ : ∃ X, rdMsg ⟨l, 0, 0⟩ = X := ⟨_, rfl⟩
  have hwf := msg_wf ⟨l, 0, 0⟩
  have hnm := msg_nums ⟨l, 0, 0⟩
  rw [hX0] at hwf hnm
  rw [hX0]
  have hX1 := hX0
  clear hX0
  unfold rdMsg at hX1
  dsimp only at hX1
  obtain ⟨s0, hs0⟩ : ∃ s0, s0 = (⟨l, 0, 0⟩ : St) := ⟨_, rfl⟩
  rw [← hs0] at hX1
  have P1 := fun (N r : Nat) (w1 : World) (h : RdAt N w1 r s0) => rd_byte r s0 w1 h
  have B1 := byte_le s0
  generalize s0.byte = p at *
  obtain ⟨k, s1⟩ := p
  dsimp only at hX1 P1 B1
  have HP1 := Lib.hid P1
  clear P1
  have P2 := fun (N r : Nat) (w1 : World) (h : RdAt N w1 r s1) => rd_small r s1 1 w1 h
  have B2 := (small_le s1 1).1
  generalize s1.small 1 = p at *
  obtain ⟨o1, s2⟩ := p
  dsimp only at hX1 P2 B2
  have HP2 := Lib.hid P2
  clear P2
  have P3 := fun (N r : Nat) (w1 : World) (h : RdAt N w1 r s2) => rd_small r s2 1 w1 h
  have B3 := (small_le s2 1).1
  generalize s2.small 1 = p at *
  obtain ⟨o2, s3⟩ := p
  dsimp only at hX1 P3 B3
  have HP3 := Lib.hid P3
  clear P3
  have P4 := fun (N r : Nat) (w1 : World) (h : RdAt N w1 r s3) => rd_count r s3 1001 w1 h (by decide)
  have B4 := count_le s3 1001
  generalize s3.count 1001 = p at *
  obtain ⟨f1, s4⟩ := p
  dsimp only at hX1 P4 B4
  have HP4 := Lib.hid P4
  clear P4
  have P5 := fun (N r : Nat) (w1 : World) (h : RdAt N w1 r s4) => rd_count r s4 1001 w1 h (by decide)
  have B5 := count_le s4 1001
  generalize s4.count 1001 = p at *
  obtain ⟨f2, s5⟩ := p
  dsimp only at hX1 P5 B5
  have HP5 := Lib.hid P5
  clear P5
  have P6 := fun (N r : Nat) (w1 : World) (h : RdAt N w1 r s5) => rd_count r s5 1001 w1 h (by decide)
  have B6 := count_le s5 1001
  generalize s5.count 1001 = p at *
  obtain ⟨f3, s6⟩ := p
  dsimp only at hX1 P6 B6
  have HP6 := Lib.hid P6
  clear P6
  have P7 := fun (N r : Nat) (w1 : World) (h : RdAt N w1 r s6) => rd_uint r s6 w1 h
  generalize s6.uint = p at *
  obtain ⟨u1, s7⟩ := p
  dsimp only at hX1 P7
  have HP7 := Lib.hid P7
  clear P7
  have P8 := fun (N r : Nat) (w1 : World) (h : RdAt N w1 r s7) => rd_uint r s7 w1 h
  generalize s7.uint = p at *
  obtain ⟨u2, s8⟩ := p
  dsimp only at hX1 P8
  have HP8 := Lib.hid P8
  clear P8
  have P9 := fun (N r : Nat) (w1 : World) (h : RdAt N w1 r s8) => rd_uint r s8 w1 h
  generalize s8.uint = p at *
  obtain ⟨u3, s9⟩ := p
  dsimp only at hX1 P9
  have HP9 := Lib.hid P9
  clear P9
  have P10 := fun (N r : Nat) (w1 : World) (h : RdAt N w1 r s9) => rd_uint r s9 w1 h
  generalize s9.uint = p at *
  obtain ⟨u4, s10⟩ := p
  dsimp only at hX1 P10
  have HP10 := Lib.hid P10
  clear P10
  have P11 := fun (N r : Nat) (w1 : World) (h : RdAt N w1 r s10) => rd_uint r s10 w1 h
  generalize s10.uint = p at *
  obtain ⟨u5, s11⟩ := p
  dsimp only at hX1 P11
  have HP11 := Lib.hid P11
  clear P11
  have P12 := fun (N r : Nat) (w1 : World) (h : RdAt N w1 r s11) => rd_count r s11 262144 w1 h (by decide)
  have B12 := count_le s11 262144
  generalize s11.count 262144 = p at *
  obtain ⟨off, s12⟩ := p
  dsimp only at hX1 P12 B12
  have HP12 := Lib.hid P12
  clear P12
  have P13 := fun (N r : Nat) (w1 : World) (h : RdAt N w1 r s12) => rd_uint r s12 w1 h
  generalize s12.uint = p at *
  obtain ⟨u6, s13⟩ := p
  dsimp only at hX1 P13
  have HP13 := Lib.hid P13
  clear P13
  have P14 := fun (N r : Nat) (w1 : World) (h : RdAt N w1 r s13) => rd_uint r s13 w1 h
  generalize s13.uint = p at *
  obtain ⟨u7, s14⟩ := p
  dsimp only at hX1 P14
  have HP14 := Lib.hid P14
  clear P14
  have P15 := fun (N r : Nat) (w1 : World) (h : RdAt N w1 r s14) => rd_sql r s14 w1 h
  generalize s14.sql = p at *
  obtain ⟨sl, s15⟩ := p
  dsimp only at hX1 P15
  have HP15 := Lib.hid P15
  clear P15
  have P16 := fun (N r : Nat) (w1 : World) (h : RdAt N w1 r s15) => rd_count r s15 262144 w1 h (by decide)
  have B16 := count_le s15 262144
  generalize s15.count 262144 = p at *
  obtain ⟨nd, s16⟩ := p
  dsimp only at hX1 P16 B16
  have HP16 := Lib.hid P16
  clear P16
  have P17 := fun (N r : Nat) (w1 : World) (h : RdAt N w1 r s16) => rd_bytes r s16 nd w1 h
  have B17 := bytes_len s16 nd
  generalize s16.bytes nd = p at *
  obtain ⟨dt, s17⟩ := p
  dsimp only at hX1 P17 B17
  have HP17 := Lib.hid P17
  clear P17
  have P18 := fun (N r : Nat) (w1 : World) (h : RdAt N w1 r s17) => rd_count r s17 1000 w1 h (by decide)
  have B18 := count_le s17 1000
  generalize s17.count 1000 = p at *
  obtain ⟨ne, s18⟩ := p
  dsimp only at hX1 P18 B18
  have HP18 := Lib.hid P18
  clear P18
  obtain ⟨p, hp19⟩ : ∃ p, St.many St.entry ne s18 = p := ⟨_, rfl⟩
  rw [hp19] at hX1
  obtain ⟨es, s19⟩ := p
  dsimp only at hX1
  have HM19 := Lib.hid hp19
  clear hp19
  have P20 := fun (N r : Nat) (w1 : World) (h : RdAt N w1 r s19) => rd_uint r s19 w1 h
  generalize s19.uint = p at *
  obtain ⟨u8, s20⟩ := p
  dsimp only at hX1 P20
  have HP20 := Lib.hid P20
  clear P20
  have P21 := fun (N r : Nat) (w1 : World) (h : RdAt N w1 r s20) => rd_count r s20 100 w1 h (by decide)
  have B21 := count_le s20 100
  generalize s20.count 100 = p at *
  obtain ⟨rcl, s21⟩ := p
  dsimp only at hX1 P21 B21
  have HP21 := Lib.hid P21
  clear P21
  have P22 := fun (N r : Nat) (w1 : World) (h : RdAt N w1 r s21) => rd_uint r s21 w1 h
  generalize s21.uint = p at *
  obtain ⟨u9, s22⟩ := p
  dsimp only at hX1 P22
  have HP22 := Lib.hid P22
  clear P22
  have P23 := fun (N r : Nat) (w1 : World) (h : RdAt N w1 r s22) => rd_count r s22 262144 w1 h (by decide)
  have B23 := count_le s22 262144
  generalize s22.count 262144 = p at *
  obtain ⟨ct, s23⟩ := p
  dsimp only at hX1 P23 B23
  have HP23 := Lib.hid P23
  clear P23
  have P24 := fun (N r : Nat) (w1 : World) (h : RdAt N w1 r s23) => rd_count r s23 64 w1 h (by decide)
  have B24 := count_le s23 64
  generalize s23.count 64 = p at *
  obtain ⟨nc, s24⟩ := p
  dsimp only at hX1 P24 B24
  have HP24 := Lib.hid P24
  clear P24
  obtain ⟨p, hp25⟩ : ∃ p, St.many St.sql nc s24 = p := ⟨_, rfl⟩
  rw [hp25] at hX1
  obtain ⟨cl, s25⟩ := p
  dsimp only at hX1
  have HM25 := Lib.hid hp25
  clear hp25
  have P26 := fun (N r : Nat) (w1 : World) (h : RdAt N w1 r s25) => rd_count r s25 20000 w1 h (by decide)
  have B26 := count_le s25 20000
  generalize s25.count 20000 = p at *
  obtain ⟨nr, s26⟩ := p
  dsimp only at hX1 P26 B26
  have HP26 := Lib.hid P26
  clear P26
  obtain ⟨p, hp27⟩ : ∃ p, St.many St.row nr s26 = p := ⟨_, rfl⟩
  rw [hp27] at hX1
  obtain ⟨rw, s27⟩ := p
  dsimp only at hX1
  have HM27 := Lib.hid hp27
  clear hp27

  subst hX1
  dsimp only
  have HWF := Lib.hid hwf
  have HNM := Lib.hid hnm
  clear hwf hnm
  obtain ⟨b1, hb1⟩ : ∃ b, (o1 == 1) = b := ⟨_, rfl⟩
  obtain ⟨b2, hb2⟩ : ∃ b, (o2 == 1) = b := ⟨_, rfl⟩
  have q1 := (natEq1 o1).trans hb1
  have q2 := (natEq1 o2).trans hb2
  rw [hb1, hb2]
  rw [hb1, hb2] at HNM HWF
  have q3 : IntKind.i64.wrap (k : Int) = k := IntWalk.i64_in _ (by omega)
  have q4 : IntKind.i64.wrap ((f1 : Int) - 1) = f1 - 1 := IntWalk.i64_in _ (by omega)
  have q5 : IntKind.i64.wrap ((f2 : Int) - 1) = f2 - 1 := IntWalk.i64_in _ (by omega)
  have q6 : IntKind.i64.wrap ((f3 : Int) - 1) = f3 - 1 := IntWalk.i64_in _ (by omega)
  clear hb1 hb2
  generalize hdd : Md.mk (k : Int) ((f1 : Int) - 1) ((f2 : Int) - 1) u1 u2 u3 es u4 u5 b1 (off : Int) dt b2 u6 u7 ⟨sl.toArray⟩ u8 (rcl : Int) (cl.map fun l => ⟨l.toArray⟩) rw (ct : Int) u9 ((f3 : Int) - 1) = dd at *
  have HDD := Lib.hid hdd
  clear hdd
  go_enter Tryd.func22, Tryd.ntmps22
  go_upto_region 1 with (fail)
  generalize World.alloc w _ = w1 at *
  generalize hxe : w.heap.size = xb at *
  have hrx : w1.heap.size ≠ xb := by omega
  have hrw : w.heap.size ≤ w1.heap.size := by omega
  have hR := Blk.fresh w1 100 #[.slice ao l.length c, .int .i64 0, .nilIface]
  have hkm := hkx.alloc (.cells #[.slice ao l.length c, .int .i64 0, .nilIface] 100)
  have hX := hX.alloc (.cells #[.slice ao l.length c, .int .i64 0, .nilIface] 100)
  have hr : RdAt xb (w1.alloc (.cells #[.slice ao l.length c, .int .i64 0, .nilIface] 100)) w1.heap.size s0 := by
    rw [hs0]
    exact ⟨ao, c, .nilIface, hR, hS1.keep0 ((Keeps.refl [] w1).alloc _), .inl ⟨rfl, rfl⟩, fun ad e hx => ⟨by have := Sl.lt h e hx; omega, by have := Sl.lt h e hx; omega⟩, by simp; omega⟩
  have hrs : xb + 1 ≤ w1.heap.size := by omega
  clear hR hs0 hkx hxl hS1
  go_upto_region 2 with (fail)
  generalize World.alloc w1 _ = w2 at *
  generalize w1.heap.size = r at *
  have H := Lib.hid h
  clear h
  have R0 : RSt w w2 xb r s0 := ⟨hr, hX, hkm, hrx, hrw⟩
  clear hr hX hkm
  go_wp2_with fail
  refine (HP1.out _ _ _ R0.rd).mono ?_
  rintro e w3 ⟨rfl, hr2, hk2⟩
  have R1 := R0.step hr2 hk2
  clear R0 hr2 hk2 HP1
  go_wp2_with fail
  refine (HP2.out _ _ _ R1.rd).mono ?_
  rintro e w4 ⟨rfl, hr2, hk2⟩
  have R2 := R1.step hr2 hk2
  clear R1 hr2 hk2 HP2
  go_wp2_with fail
  refine (HP3.out _ _ _ R2.rd).mono ?_
  rintro e w5 ⟨rfl, hr2, hk2⟩
  have R3 := R2.step hr2 hk2
  clear R2 hr2 hk2 HP3
  go_wp2_with fail
  refine (HP4.out _ _ _ R3.rd).mono ?_
  rintro e w6 ⟨rfl, hr2, hk2⟩
  have R4 := R3.step hr2 hk2
  clear R3 hr2 hk2 HP4
  go_wp2_with fail
  refine (HP5.out _ _ _ R4.rd).mono ?_
  rintro e w7 ⟨rfl, hr2, hk2⟩
  have R5 := R4.step hr2 hk2
  clear R4 hr2 hk2 HP5
  as_aux_lemma =>
  go_wp2_with fail
  refine (HP6.out _ _ _ R5.rd).mono ?_
  rintro e w8 ⟨rfl, hr2, hk2⟩
  have R6 := R5.step hr2 hk2
  clear R5 hr2 hk2 HP6
  go_wp2_with fail
  refine (HP7.out _ _ _ R6.rd).mono ?_
  rintro e w9 ⟨rfl, hr2, hk2⟩
  have R7 := R6.step hr2 hk2
  clear R6 hr2 hk2 HP7
  go_wp2_with fail
  refine (HP8.out _ _ _ R7.rd).mono ?_
  rintro e w10 ⟨rfl, hr2, hk2⟩
  have R8 := R7.step hr2 hk2
  clear R7 hr2 hk2 HP8
  go_wp2_with fail
  refine (HP9.out _ _ _ R8.rd).mono ?_
  rintro e w11 ⟨rfl, hr2, hk2⟩
  have R9 := R8.step hr2 hk2
  clear R8 hr2 hk2 HP9
  go_wp2_with fail
  refine (HP10.out _ _ _ R9.rd).mono ?_
  rintro e w12 ⟨rfl, hr2, hk2⟩
  have R10 := R9.step hr2 hk2
  clear R9 hr2 hk2 HP10
  as_aux_lemma =>
  go_wp2_with fail
  refine (HP11.out _ _ _ R10.rd).mono ?_
  rintro e w13 ⟨rfl, hr2, hk2⟩
  have R11 := R10.step hr2 hk2
  clear R10 hr2 hk2 HP11
  go_wp2_with fail
  refine (HP12.out _ _ _ R11.rd).mono ?_
  rintro e w14 ⟨rfl, hr2, hk2⟩
  have R12 := R11.step hr2 hk2
  clear R11 hr2 hk2 HP12
  go_wp2_with fail
  refine (HP13.out _ _ _ R12.rd).mono ?_
  rintro e w15 ⟨rfl, hr2, hk2⟩
  have R13 := R12.step hr2 hk2
  clear R12 hr2 hk2 HP13
  go_wp2_with fail
  refine (HP14.out _ _ _ R13.rd).mono ?_
  rintro e w16 ⟨rfl, hr2, hk2⟩
  have R14 := R13.step hr2 hk2
  clear R13 hr2 hk2 HP14
  go_wp2_with fail
  refine (HP15.out _ _ _ R14.rd).mono ?_
  rintro e w17 ⟨rfl, hr2, hk2⟩
  have R15 := R14.step hr2 hk2
  clear R14 hr2 hk2 HP15
  as_aux_lemma =>
  go_upto_region 3 with (first
    | (refine wpList_built rfl 43 _ rfl _ _ (built_M (k : Int) ((f1 : Int) - 1) ((f2 : Int) - 1) ((f3 : Int) - 1) (off : Int) (u1 : Nat) (u2 : Nat) (u3 : Nat) (u4 : Nat) (u5 : Nat) (u6 : Nat) (u7 : Nat) b1 b2 ⟨sl.toArray⟩) ?_ ?_; rfl)
    | (refine wpList_store_fresh rfl rfl 43 _ _ rfl w17.heap.size ?_ rfl ((#[.int .i64 (k : Int), .int .i64 ((f1 : Int) - 1), .int .i64 ((f2 : Int) - 1), .int .u64 (u1 : Nat), .int .u64 (u2 : Nat), .int .u64 (u3 : Nat), .slice none 0 0, .int .u64 (u4 : Nat), .int .u64 (u5 : Nat), .bool b1, .int .i64 (off : Int), .slice none 0 0, .bool b2, .int .u64 (u6 : Nat), .int .u64 (u7 : Nat), .string ⟨sl.toArray⟩, .int .u64 0, .int .i64 0, .slice none 0 0, .slice none 0 0, .int .i64 0, .int .u64 0, .int .i64 ((f3 : Int) - 1)] : Array Value).toList) ?_ _ _ Tryd.sizeM ?_ ?_ ?_; rfl; rfl; simp; rfl))
  obtain ⟨hr, hX, hkm, _, _⟩ := R15
  have hrl := hr.lt
  have hxL := hX.lt
  have hB := Blk.fresh w17 43 #[.int .i64 (k : Int), .int .i64 ((f1 : Int) - 1), .int .i64 ((f2 : Int) - 1), .int .u64 (u1 : Nat), .int .u64 (u2 : Nat), .int .u64 (u3 : Nat), .slice none 0 0, .int .u64 (u4 : Nat), .int .u64 (u5 : Nat), .bool b1, .int .i64 (off : Int), .slice none 0 0, .bool b2, .int .u64 (u6 : Nat), .int .u64 (u7 : Nat), .string ⟨sl.toArray⟩, .int .u64 0, .int .i64 0, .slice none 0 0, .slice none 0 0, .int .i64 0, .int .u64 0, .int .i64 ((f3 : Int) - 1)]
  have hkA := (Keeps.refl [] w17).alloc (.cells #[.int .i64 (k : Int), .int .i64 ((f1 : Int) - 1), .int .i64 ((f2 : Int) - 1), .int .u64 (u1 : Nat), .int .u64 (u2 : Nat), .int .u64 (u3 : Nat), .slice none 0 0, .int .u64 (u4 : Nat), .int .u64 (u5 : Nat), .bool b1, .int .i64 (off : Int), .slice none 0 0, .bool b2, .int .u64 (u6 : Nat), .int .u64 (u7 : Nat), .string ⟨sl.toArray⟩, .int .u64 0, .int .i64 0, .slice none 0 0, .slice none 0 0, .int .i64 0, .int .u64 0, .int .i64 ((f3 : Int) - 1)] 43)
  have hr := hr.keep hkA
  have hX := hX.keep hkA (by simp)
  have hmr : w17.heap.size ≠ r := by omega
  have hmx : w17.heap.size ≠ xb := by omega
  have hxm : xb ≤ w17.heap.size := by omega
  have hkm := hkm.trans hkA
  clear hkA hrl hxL
  generalize World.alloc w17 _ = w18 at *
  generalize w17.heap.size = mb at *
  obtain ⟨d0, hd0⟩ : ∃ d0 : Md, d0 = ⟨(k : Int), (f1 : Int) - 1, (f2 : Int) - 1, u1, u2, u3, [], u4, u5, b1, (off : Int), [], b2, u6, u7, ⟨sl.toArray⟩, 0, 0, [], [], 0, 0, (f3 : Int) - 1⟩ := ⟨_, rfl⟩
  have S0 : MSt w w18 xb r mb s15 d0 zeroMa := by
    subst hd0
    exact ⟨hr, hX, hB, Own.nil _ _, World.ownsRow_nil _ _ _ _, World.ownsRow_nil _ _ _ _, ⟨[], rfl, World.ownsRow_nil _ _ _ _, fun q hq => by cases hq⟩, hkm, hxe, hrx, hmr, hmx, by omega, hxm⟩
  have HD0 := Lib.hid hd0
  clear hd0 hr hX hB hkm q1 q2 q3 q4 q5 q6
  as_aux_lemma =>
  -- data
  go_wp2_with fail
  refine (HP16.out _ _ _ S0.rd).mono ?_
  rintro e w19 ⟨rfl, hr2, hk2⟩
  have S1 := S0.keepR hr2 hk2
  clear S0 hr2 hk2 HP16
  go_wp2_with fail
  refine (HP17.out _ _ _ S1.rd).mono ?_
  rintro e w20 ⟨a1, c1, rfl, hDb, hr2, hk2⟩
  have S2 := S1.keepR hr2 hk2
  clear S1 hr2 hk2 HP17
  go_wp2_with fail
  refine (clone_own a1 c1 dt w20 hDb (by omega)).mono ?_
  rintro e w21 ⟨da, dc, rfl, hOd, hk2⟩
  have S3 := S2.keep0 hk2
  have hOd := ownsRow_older hOd (show xb ≤ w20.heap.size by have := S2.ks.size; have := S2.k0; omega)
  clear S2 hk2 hDb
  have hlB := S3.bm.lt
  have hcB := S3.bm.cell
  have hfB := S3.bm.free
  dsimp only [msgCells] at hcB
  go_upto_region 4 with (fail)
  clear hlB hcB hfB
  have S4 := S3.put 11 (.slice da dt.length dc) (set_data d0 zeroMa da dc dt) hOd S3.oe S3.oc S3.or
  clear S3 hOd
  generalize World.setCell _ _ _ = w22 at *
  as_aux_lemma =>
  -- entries
  go_wp2_with fail
  refine (HP18.out _ _ _ S4.rd).mono ?_
  rintro e w23 ⟨rfl, hr2, hk2⟩
  have S5 := S4.keepR hr2 hk2
  clear S4 hr2 hk2 HP18
  go_wp2_with fail
  as_aux_lemma =>
  obtain ⟨D1, hD1⟩ : ∃ D1 : Md, D1 = ⟨(k : Int), (f1 : Int) - 1, (f2 : Int) - 1, u1, u2, u3, [], u4, u5, b1, (off : Int), dt, b2, u6, u7, ⟨sl.toArray⟩, 0, 0, [], [], 0, 0, (f3 : Int) - 1⟩ := ⟨_, rfl⟩
  obtain ⟨A1, hA1⟩ : ∃ A1 : Ma, A1 = ⟨none, 0, da, dc, none, 0, none, 0⟩ := ⟨_, rfl⟩
  have S5' : MSt w w23 xb r mb s18 { D1 with es := [] } { A1 with ea := none, ec := 0 } := by
    rw [HD0.out] at S5
    rw [hD1, hA1]
    exact S5
  have HD1 := Lib.hid hD1
  have hm19 := HM19.out
  clear S5 hD1 hA1 HM19 HD0
  obtain ⟨i, z, hi, hz, hsz, hby, hzc⟩ := infoEn
  go_loopw [57] (fun v wr => ∃ (j : Nat) (s' : St) (e0 : List Ent) (ao' : Option Addr) (c' : Nat), v = .int .i64 (j : Int) ∧ j ≤ ne ∧ e0.length = j ∧ MSt w wr xb r mb s' { D1 with es := e0 } { A1 with ea := ao', ec := c' } ∧ (e0 ++ (St.many St.entry (ne - j) s').1, (St.many St.entry (ne - j) s').2) = (es, s19)) (fun v _ => ne - (intOf v).toNat)
  case atStart => exact ⟨0, s18, [], none, 0, rfl, by omega, rfl, S5', by rw [← hm19]; rfl⟩
  case round =>
  obtain ⟨j, s', e0, ao', c', rfl, hj, hel, S, hes⟩ := hrel
  clear S5' hm19
  by_cases hje : j = ne
  rotate_left
  · as_aux_lemma =>
    have hlt : (j : Int) < (ne : Int) := by omega
    have s2 : IntKind.i64.wrap ((j : Int) + 1) = j + 1 := IntWalk.i64_in _ (by omega)
    rw [show ne - j = (ne - (j + 1)) + 1 by omega, many_succ] at hes
    have P := fun (w1 : World) (h : RdAt xb w1 r s') (hN : xb ≤ w1.heap.size) => rd_entry r s' w1 h hN
    generalize s'.entry = p at *
    obtain ⟨x, s2'⟩ := p
    dsimp only at hes P
    obtain ⟨x, hx⟩ : ∃ x', x' = x := ⟨x, rfl⟩
    subst hx
    obtain ⟨xt, xk, xc, xs, xp⟩ := x
    simp only [Ent.cells] at P
    have HP := Lib.hid P
    have HES := Lib.hid hes
    have HEL := Lib.hid hel
    have hj2 : j < ne := by omega
    clear P hes hje hel
    have S1 := S.keep0 ((Keeps.refl [] wr).drew)
    go_upto_region 6 with (fail)
    have hSw := one_read (i := 1) (F := fun w0 : World => w0.cell? ⟨mb, 6, none⟩ = some (.slice ao' e0.length c')) (cell6 S1.bm)
    refine startU [((1 : Nat), fun w0 : World => w0.cell? ⟨mb, 6, none⟩ = some (.slice ao' e0.length c'))] (by kernel_rfl) ?_
    refine takeU (i := 0) (v := ?_) rfl (by kernel_rfl) (fun _ _ _ h => h) (Or.inl ⟨by rfl, fun w0 hw0 => ?_⟩) (fun p hp _ => hSw p hp) ?_
    rotate_left
    · simp [Reads] at hw0
      go_simp
      try with_reducible rfl
    try go_simp
    refine takeU (i := 1) (v := ?_) rfl (by kernel_rfl) (fun _ _ _ h => h) (Or.inl ⟨by rfl, fun w0 hw0 => ?_⟩) (fun p hp _ => hSw p hp) ?_
    rotate_left
    · simp [Reads] at hw0
      go_simp
      try with_reducible rfl
    try go_simp
    refine takeU (i := 2) (v := ?_) rfl (by kernel_rfl) (fun _ _ _ h => h) (Or.inl ⟨by rfl, fun w0 hw0 => ?_⟩) (fun p hp _ => hSw p hp) ?_
    rotate_left
    · simp [Reads] at hw0
      go_simp
      try with_reducible rfl
    try go_simp
    refine oneU (i := 3) rfl (by kernel_rfl) (fun K hK => ?_)
    go_simp
    go_at_call 43
    refine (HP.out _ S1.rd (by have := S1.ks.size; have := S1.k0; omega)).mono ?_
    rintro e w2 ⟨rfl, hr2, hk2⟩
    have S2 := S1.keepR hr2 hk2
    refine hK _ _ ?_ ?_
    · exact fun p hp _ _ => one_read (F := fun w0 : World => w0.cell? ⟨mb, 6, none⟩ = some (.slice ao' e0.length c')) (cell6 S2.bm) p hp
    clear hK K S S1 hr2 hk2 HP hSw
    try go_simp
    refine oneU (i := 4) rfl (by kernel_rfl) (fun K hK => ?_)
    refine step_slice1 rfl 33 80 _ rfl i z (.agg #[.int .u64 (xt : Nat), .int .i64 xk, .int .u64 (xc : Nat), .int .u64 (xs : Nat), .string xp]) 5 Tryd.underlying33 hi hz hsz rfl rfl (by omega) (by omega) ?_
    have S3 := S2.keep0 ((Keeps.refl [] w2).alloc (.cells #[.int .u64 (xt : Nat), .int .i64 xk, .int .u64 (xc : Nat), .int .u64 (xs : Nat), .string xp] 80))
    have hT := re1 (x := ⟨xt, xk, xc, xs, xp⟩) (Blk.fresh w2 80 #[.int .u64 (xt : Nat), .int .i64 xk, .int .u64 (xc : Nat), .int .u64 (xs : Nat), .string xp])
    have hsz3 : xb ≤ (w2.alloc (.cells #[.int .u64 (xt : Nat), .int .i64 xk, .int .u64 (xc : Nat), .int .u64 (xs : Nat), .string xp] 80)).heap.size := S3.k0 ▸ S3.ks.size
    refine hK _ _ (fun p hp _ _ => one_read (F := fun w0 : World => w0.cell? ⟨mb, 6, none⟩ = some (.slice ao' e0.length c')) (cell6 S3.bm) p hp) ?_
    clear hK K S2
    try go_simp
    refine oneU (i := 5) rfl (by kernel_rfl) (fun K hK => ?_)
    refine step_append_by rfl _ _ 33 33 rfl xb 80 i z 5 48 Tryd.underlying33 hi hz hsz hby hzc ao' _ c' _ rfl S3.oe _ rfl 1 _ (hT.src Tryd.underlying33) (by have := HEL.out; unfold maxLen; omega) (by have := HEL.out; omega) hsz3 ?_
    intro a3 c3 w3 hO3 hk3 hb3
    obtain ⟨hM3, S4⟩ := S3.app_es hk3 (ao := a3) (c := c3) (l := e0 ++ [⟨xt, xk, xc, xs, xp⟩]) (by show World.ownsRow _ _ _ _ _ _ _; rw [ents_append, List.length_append]; exact hO3)
    rw [List.length_append] at S4
    change MSt w (w3.setCell ⟨mb, 6, none⟩ (.slice a3 (e0.length + 1) c3)) _ _ _ _ _ _ at S4
    refine hK _ _ (fun p hp _ _ => one_read (F := fun w0 : World => w0.cell? ⟨mb, 6, none⟩ = some (.slice ao' e0.length c')) (cell6 hM3) p hp) ?_
    clear hK K S3 hO3 hk3 hb3 hT hsz3
    try go_simp
    refine oneU (i := 6) rfl (by kernel_rfl) (fun K hK => ?_)
    go_simp
    refine hK _ _ (fun p hp _ _ => one_read (F := fun w0 : World => w0.cell? ⟨mb, 6, none⟩ = some (.slice ao' e0.length c')) (cell6 hM3) p hp) ?_
    clear hK K
    try go_simp
    have hfB := hM3.free
    have hlB := hM3.lt
    have hcB := cell6 hM3
    dsimp only at hcB
    refine oneU (i := 7) rfl (by kernel_rfl) (fun K hK => ?_)
    go_simp
    refine hK _ _ (fun p hp h1 _ => by simp only [List.mem_singleton] at hp; subst hp; exact waits_absurd h1 (by kernel_rfl)) ?_
    clear hK K hM3 hfB hlB hcB
    refine doneU (by kernel_rfl) ?_
    generalize World.setCell _ _ _ = w4 at *
    go_wp2_with fail
    go_roundw
    case rel => exact ⟨j + 1, s2', e0 ++ [⟨xt, xk, xc, xs, xp⟩], a3, c3, by simp, by omega, by rw [List.length_append, HEL.out]; rfl, S4, by rw [← HES.out, List.append_assoc]; rfl⟩
    case measure => simp [intOf]; omega
  subst hje
  rw [Nat.sub_self] at hes
  change (e0 ++ [], s') = (es, s19) at hes
  rw [List.append_nil] at hes
  simp only [Prod.mk.injEq] at hes
  obtain ⟨h1, h2⟩ := hes
  subst h1 h2
  clear hel hj i z hi hz hsz hby hzc
  obtain ⟨D2, hD2⟩ : ∃ D2 : Md, D2 = { D1 with es := e0 } := ⟨_, rfl⟩
  obtain ⟨A2, hA2⟩ : ∃ A2 : Ma, A2 = { A1 with ea := ao', ec := c' } := ⟨_, rfl⟩
  rw [← hD2, ← hA2] at S
  have HD2 := Lib.hid hD2
  clear hD2 hA2
  have q7 : IntKind.i64.wrap (rcl : Int) = rcl := IntWalk.i64_in _ (by omega)
  go_wp2_with fail
  as_aux_lemma =>
  -- the reply
  refine (HP20.out _ _ _ S.rd).mono ?_
  rintro e w30 ⟨rfl, hr2, hk2⟩
  have S1 := S.keepR hr2 hk2
  clear S hr2 hk2 HP20
  go_wp2_with fail
  refine (HP21.out _ _ _ S1.rd).mono ?_
  rintro e w31 ⟨rfl, hr2, hk2⟩
  have S2 := S1.keepR hr2 hk2
  clear S1 hr2 hk2 HP21
  go_wp2_with fail
  refine (HP22.out _ _ _ S2.rd).mono ?_
  rintro e w32 ⟨rfl, hr2, hk2⟩
  have S3 := S2.keepR hr2 hk2
  clear S2 hr2 hk2 HP22
  go_upto_region 9 with (first
    | (refine wpList_built rfl 41 _ rfl _ _ (built_R (rcl : Int) (u8 : Nat) (u9 : Nat)) ?_ ?_; rfl)
    | (refine wpList_store_agg rfl rfl 41 _ _ rfl mb 16 ?_ ([.int .u64 (u8 : Nat), .int .i64 (rcl : Int), .slice none 0 0, .slice none 0 0, .int .i64 0, .int .u64 (u9 : Nat)]) ?_ 43 (msgCells D2 A2) S3.bm Tryd.sizeRP ?_ ?_ (msgCells { D2 with rseq := u8, rcl := (rcl : Int), cols := [], rows := [], count := 0, rindex := u9 } { A2 with ca := none, cc := 0, ra := none, rc := 0 }) (reply_cells D2 A2 u8 u9 (rcl : Int)) ?_; rfl; rfl; simp; rfl; intro w33 hB33 hk33))
  have S4 := S3.turn hB33 hk33 S3.od S3.oe (World.ownsRow_nil _ _ _ _) ⟨[], rfl, World.ownsRow_nil _ _ _ _, fun q hq => by cases hq⟩
  clear S3 hB33 hk33
  as_aux_lemma =>
  obtain ⟨D3, hD3⟩ : ∃ D3 : Md, D3 = { D2 with rseq := u8, rcl := (rcl : Int), cols := [], rows := [], count := 0, rindex := u9 } := ⟨_, rfl⟩
  obtain ⟨A3, hA3⟩ : ∃ A3 : Ma, A3 = { A2 with ca := none, cc := 0, ra := none, rc := 0 } := ⟨_, rfl⟩
  rw [← hD3, ← hA3] at S4
  have hca : A3.ca = none ∧ A3.cc = 0 ∧ A3.ra = none ∧ A3.rc = 0 := by rw [hA3]; exact ⟨rfl, rfl, rfl, rfl⟩
  have hcd : D3.cols = [] ∧ D3.rows = [] := by rw [hD3]; exact ⟨rfl, rfl⟩
  have HD3 := Lib.hid hD3
  have HCA := Lib.hid (And.intro hca hcd)
  clear hD3 hA3 hca hcd q7
  -- the count
  go_wp2_with fail
  refine (HP23.out _ _ _ S4.rd).mono ?_
  rintro e w34 ⟨rfl, hr2, hk2⟩
  have S5 := S4.keepR hr2 hk2
  clear S4 hr2 hk2 HP23
  have hlB := S5.bm.lt
  have hcB := cell20 S5.bm
  have hfB := S5.bm.free
  go_upto_region 11 with (fail)
  clear hlB hcB hfB
  have S6 := S5.put 20 (.int .i64 (ct : Int)) (set_count D3 A3 ct) S5.od S5.oe S5.oc S5.or
  clear S5
  generalize World.setCell _ _ _ = w35 at *
  go_wp2_with fail
  refine (HP24.out _ _ _ S6.rd).mono ?_
  rintro e w36 ⟨rfl, hr2, hk2⟩
  have S7 := S6.keepR hr2 hk2
  clear S6 hr2 hk2 HP24
  go_wp2_with fail
  as_aux_lemma =>
  -- the columns
  obtain ⟨D4, hD4⟩ : ∃ D4 : Md, D4 = { D3 with count := (ct : Int) } := ⟨_, rfl⟩
  rw [← hD4] at S7
  have S7' : MSt w w36 xb r mb s24 { D4 with cols := [] } { A3 with ca := none, cc := 0 } := by
    have e : ({ D4 with cols := [] } : Md) = D4 := by rw [hD4, ← HCA.out.2.1]
    have e2 : ({ A3 with ca := none, cc := 0 } : Ma) = A3 := by
      have h := HCA.out.1
      cases A3
      simp only at h ⊢
      rw [h.1, h.2.1]
    rw [e, e2]
    exact S7
  have HD4 := Lib.hid hD4
  have hm25 := HM25.out
  clear hD4 S7 HM25
  obtain ⟨i, z, hi, hz, hsz, hby, hzc⟩ := infoSt
  go_loopw [84] (fun v wr => ∃ (j : Nat) (s' : St) (e0 : List ByteArray) (ao' : Option Addr) (c' : Nat), v = .int .i64 (j : Int) ∧ j ≤ nc ∧ e0.length = j ∧ MSt w wr xb r mb s' { D4 with cols := e0 } { A3 with ca := ao', cc := c' } ∧ (e0 ++ (St.many St.sql (nc - j) s').1.map (fun l => (⟨l.toArray⟩ : ByteArray)), (St.many St.sql (nc - j) s').2) = (cl.map (fun l => (⟨l.toArray⟩ : ByteArray)), s25)) (fun v _ => nc - (intOf v).toNat)
  case atStart => exact ⟨0, s24, [], none, 0, rfl, by omega, rfl, S7', by rw [Nat.sub_zero, hm25]; rfl⟩
  case round =>
  obtain ⟨j, s', e0, ao', c', rfl, hj, hel, S, hes⟩ := hrel
  clear S7' hm25
  by_cases hje : j = nc
  rotate_left
  · as_aux_lemma =>
    have hlt : (j : Int) < (nc : Int) := by omega
    have s2 : IntKind.i64.wrap ((j : Int) + 1) = j + 1 := IntWalk.i64_in _ (by omega)
    rw [show nc - j = (nc - (j + 1)) + 1 by omega, many_succ] at hes
    have P := fun (w1 : World) (h : RdAt xb w1 r s') => rd_sql r s' w1 h
    generalize s'.sql = p at *
    obtain ⟨x, s2'⟩ := p
    dsimp only at hes P
    have HES := Lib.hid hes
    have HP := Lib.hid P
    have HEL := Lib.hid hel
    have hj2 : j < nc := by omega
    clear P hes hje hel
    have S1 := S.keep0 ((Keeps.refl [] wr).drew)
    go_upto_region 13 with (fail)
    have hSw := one_read (i := 4) (F := fun w0 : World => w0.cell? ⟨mb, 18, none⟩ = some (.slice ao' e0.length c')) (cell18 S1.bm)
    refine startU [((4 : Nat), fun w0 : World => w0.cell? ⟨mb, 18, none⟩ = some (.slice ao' e0.length c'))] (by kernel_rfl) ?_
    refine takeU (i := 0) (v := ?_) rfl (by kernel_rfl) (fun _ _ _ h => h) (Or.inl ⟨by rfl, fun w0 hw0 => ?_⟩) (fun p hp _ => hSw p hp) ?_
    rotate_left
    · simp [Reads] at hw0
      go_simp
      try with_reducible rfl
    try go_simp
    refine takeU (i := 1) (v := ?_) rfl (by kernel_rfl) (fun _ _ _ h => h) (Or.inl ⟨by rfl, fun w0 hw0 => ?_⟩) (fun p hp _ => hSw p hp) ?_
    rotate_left
    · simp [Reads] at hw0
      go_simp
      try with_reducible rfl
    try go_simp
    refine takeU (i := 2) (v := ?_) rfl (by kernel_rfl) (fun _ _ _ h => h) (Or.inl ⟨by rfl, fun w0 hw0 => ?_⟩) (fun p hp _ => hSw p hp) ?_
    rotate_left
    · simp [Reads] at hw0
      go_simp
      try with_reducible rfl
    try go_simp
    refine takeU (i := 3) (v := ?_) rfl (by kernel_rfl) (fun _ _ _ h => h) (Or.inl ⟨by rfl, fun w0 hw0 => ?_⟩) (fun p hp _ => hSw p hp) ?_
    rotate_left
    · simp [Reads] at hw0
      go_simp
      try with_reducible rfl
    try go_simp
    refine takeU (i := 4) (v := ?_) rfl (by kernel_rfl) (fun _ _ _ h => h) (Or.inl ⟨by rfl, fun w0 hw0 => ?_⟩) (fun p hp _ => hSw p hp) ?_
    rotate_left
    · simp [Reads] at hw0
      go_simp
      try with_reducible rfl
    try go_simp
    refine takeU (i := 5) (v := ?_) rfl (by kernel_rfl) (fun _ _ _ h => h) (Or.inl ⟨by rfl, fun w0 hw0 => ?_⟩) (fun p hp _ => hSw p hp) ?_
    rotate_left
    · simp [Reads] at hw0
      go_simp
      try with_reducible rfl
    try go_simp
    refine oneU (i := 6) rfl (by kernel_rfl) (fun K hK => ?_)
    go_simp
    go_at_call 40
    refine (HP.out _ S1.rd).mono ?_
    rintro e w2 ⟨rfl, hr2, hk2⟩
    have S2 := S1.keepR hr2 hk2
    refine hK _ _ ?_ ?_
    · exact fun p hp _ _ => one_read (F := fun w0 : World => w0.cell? ⟨mb, 18, none⟩ = some (.slice ao' e0.length c')) (cell18 S2.bm) p hp
    clear hK K S S1 hr2 hk2 HP hSw
    try go_simp
    refine oneU (i := 7) rfl (by kernel_rfl) (fun K hK => ?_)
    refine step_slice1 rfl 36 9 _ rfl i z (.string ⟨x.toArray⟩) 1 Tryd.underlying36 hi hz hsz rfl rfl (by omega) (by omega) ?_
    have S3 := S2.keep0 ((Keeps.refl [] w2).alloc (.cells #[.string ⟨x.toArray⟩] 9))
    have hT := rc1 (s := ⟨x.toArray⟩) (Blk.fresh w2 9 #[.string ⟨x.toArray⟩])
    have hsz3 : xb ≤ (w2.alloc (.cells #[.string ⟨x.toArray⟩] 9)).heap.size := S3.k0 ▸ S3.ks.size
    refine hK _ _ (fun p hp _ _ => one_read (F := fun w0 : World => w0.cell? ⟨mb, 18, none⟩ = some (.slice ao' e0.length c')) (cell18 S3.bm) p hp) ?_
    clear hK K S2
    change wpAnyU _ _ _ _ _ _ _ _ (World.alloc _ (.cells #[.string ⟨x.toArray⟩] 9))
    try go_simp
    refine oneU (i := 8) rfl (by kernel_rfl) (fun K hK => ?_)
    refine step_append_by rfl _ _ 36 36 rfl xb 9 i z 1 16 Tryd.underlying36 hi hz hsz hby hzc ao' _ c' _ rfl S3.oc _ rfl 1 _ (hT.src Tryd.underlying36) (by have := HEL.out; unfold maxLen; omega) (by have := HEL.out; omega) hsz3 ?_
    intro a3 c3 w3 hO3 hk3 hb3
    obtain ⟨hM3, S4⟩ := S3.app_cols hk3 (ao := a3) (c := c3) (l := e0 ++ [⟨x.toArray⟩]) (by show World.ownsRow _ _ _ _ _ _ _; rw [List.map_append, List.length_append]; exact hO3)
    rw [List.length_append] at S4
    change MSt w (w3.setCell ⟨mb, 18, none⟩ (.slice a3 (e0.length + 1) c3)) _ _ _ _ _ _ at S4
    refine hK _ _ (fun p hp _ _ => one_read (F := fun w0 : World => w0.cell? ⟨mb, 18, none⟩ = some (.slice ao' e0.length c')) (cell18 hM3) p hp) ?_
    clear hK K S3 hO3 hk3 hb3 hT hsz3
    try go_simp
    have hSw := one_read (i := 4) (F := fun w0 : World => w0.cell? ⟨mb, 18, none⟩ = some (.slice ao' e0.length c')) (cell18 hM3)
    refine takeU (i := 9) (v := ?_) rfl (by kernel_rfl) (fun _ _ _ h => h) (Or.inl ⟨by rfl, fun w0 hw0 => ?_⟩) (fun p hp _ => hSw p hp) ?_
    rotate_left
    · simp [Reads] at hw0
      go_simp
      try with_reducible rfl
    try go_simp
    refine takeU (i := 10) (v := ?_) rfl (by kernel_rfl) (fun _ _ _ h => h) (Or.inl ⟨by rfl, fun w0 hw0 => ?_⟩) (fun p hp _ => hSw p hp) ?_
    rotate_left
    · simp [Reads] at hw0
      go_simp
      try with_reducible rfl
    try go_simp
    have hfB := hM3.free
    have hlB := hM3.lt
    have hcB := cell18 hM3
    dsimp only at hcB
    refine oneU (i := 11) rfl (by kernel_rfl) (fun K hK => ?_)
    go_simp
    refine hK _ _ (fun p hp h1 _ => by simp only [List.mem_singleton] at hp; subst hp; exact waits_absurd h1 (by kernel_rfl)) ?_
    clear hK K hM3 hfB hlB hcB hSw
    refine doneU (by kernel_rfl) ?_
    generalize World.setCell _ _ _ = w4 at *
    go_wp2_with fail
    go_roundw
    case rel => exact ⟨j + 1, s2', e0 ++ [⟨x.toArray⟩], a3, c3, by simp, by omega, by rw [List.length_append, HEL.out]; rfl, S4, by rw [← HES.out, List.append_assoc]; rfl⟩
    case measure => simp [intOf]; omega
  subst hje
  rw [Nat.sub_self] at hes
  change (e0 ++ [], s') = (cl.map (fun l => (⟨l.toArray⟩ : ByteArray)), s25) at hes
  rw [List.append_nil] at hes
  simp only [Prod.mk.injEq] at hes
  obtain ⟨h1, h2⟩ := hes
  subst h2
  clear hel hj i z hi hz hsz hby hzc
  obtain ⟨D5, hD5⟩ : ∃ D5 : Md, D5 = { D4 with cols := e0 } := ⟨_, rfl⟩
  obtain ⟨A5, hA5⟩ : ∃ A5 : Ma, A5 = { A3 with ca := ao', cc := c' } := ⟨_, rfl⟩
  rw [← hD5, ← hA5] at S
  have hra : A5.ra = none ∧ A5.rc = 0 := by rw [hA5]; exact HCA.out.1.2.2
  have hrd : D5.rows = [] := by rw [hD5, HD4.out]; exact HCA.out.2.2
  rw [h1] at hD5
  have HD5 := Lib.hid hD5
  have HRA := Lib.hid (And.intro hra hrd)
  clear hD5 hA5 hra hrd h1 HCA
  go_wp2_with fail
  refine (HP26.out _ _ _ S.rd).mono ?_
  rintro e w37 ⟨rfl, hr2, hk2⟩
  have S1 := S.keepR hr2 hk2
  clear S hr2 hk2 HP26
  go_wp2_with fail
  as_aux_lemma =>
  -- the rows
  have S1' : MSt w w37 xb r mb s26 { D5 with rows := [] } { A5 with ra := none, rc := 0 } := by
    have e : ({ D5 with rows := [] } : Md) = D5 := by rw [← HRA.out.2]
    have e2 : ({ A5 with ra := none, rc := 0 } : Ma) = A5 := by
      have h := HRA.out.1
      cases A5
      simp only at h ⊢
      rw [h.1, h.2]
    rw [e, e2]
    exact S1
  have hm27 := HM27.out
  clear S1 HM27 HRA
  obtain ⟨i, z, hi, hz, hsz, hby, hzc⟩ := infoRo
  go_loopw [100] (fun v wr => ∃ (j : Nat) (s' : St) (e0 : List (List Va)) (ao' : Option Addr) (c' : Nat), v = .int .i64 (j : Int) ∧ j ≤ nr ∧ e0.length = j ∧ MSt w wr xb r mb s' { D5 with rows := e0 } { A5 with ra := ao', rc := c' } ∧ (e0 ++ (St.many St.row (nr - j) s').1, (St.many St.row (nr - j) s').2) = (rw, s27)) (fun v _ => nr - (intOf v).toNat)
  case atStart => exact ⟨0, s26, [], none, 0, rfl, by omega, rfl, S1', by rw [Nat.sub_zero, hm27]; rfl⟩
  case round =>
  obtain ⟨j, s', e0, ao', c', rfl, hj, hel, S, hes⟩ := hrel
  clear S1' hm27
  by_cases hje : j = nr
  rotate_left
  · as_aux_lemma =>
    have hlt : (j : Int) < (nr : Int) := by omega
    have s2 : IntKind.i64.wrap ((j : Int) + 1) = j + 1 := IntWalk.i64_in _ (by omega)
    rw [show nr - j = (nr - (j + 1)) + 1 by omega, many_succ] at hes
    have P := fun (w1 : World) (h : RdAt xb w1 r s') (hN : xb ≤ w1.heap.size) => rd_row r s' w1 h hN
    generalize s'.row = p at *
    obtain ⟨x, s2'⟩ := p
    dsimp only at hes P
    have HES := Lib.hid hes
    have HP := Lib.hid P
    have HEL := Lib.hid hel
    have hj2 : j < nr := by omega
    clear P hes hje hel
    have S1 := S.keep0 ((Keeps.refl [] wr).drew)
    go_upto_region 17 with (fail)
    have hSw := one_read (i := 4) (F := fun w0 : World => w0.cell? ⟨mb, 19, none⟩ = some (.slice ao' e0.length c')) (cell19 S1.bm)
    refine startU [((4 : Nat), fun w0 : World => w0.cell? ⟨mb, 19, none⟩ = some (.slice ao' e0.length c'))] (by kernel_rfl) ?_
    refine takeU (i := 0) (v := ?_) rfl (by kernel_rfl) (fun _ _ _ h => h) (Or.inl ⟨by rfl, fun w0 hw0 => ?_⟩) (fun p hp _ => hSw p hp) ?_
    rotate_left
    · simp [Reads] at hw0
      go_simp
      try with_reducible rfl
    try go_simp
    refine takeU (i := 1) (v := ?_) rfl (by kernel_rfl) (fun _ _ _ h => h) (Or.inl ⟨by rfl, fun w0 hw0 => ?_⟩) (fun p hp _ => hSw p hp) ?_
    rotate_left
    · simp [Reads] at hw0
      go_simp
      try with_reducible rfl
    try go_simp
    refine takeU (i := 2) (v := ?_) rfl (by kernel_rfl) (fun _ _ _ h => h) (Or.inl ⟨by rfl, fun w0 hw0 => ?_⟩) (fun p hp _ => hSw p hp) ?_
    rotate_left
    · simp [Reads] at hw0
      go_simp
      try with_reducible rfl
    try go_simp
    refine takeU (i := 3) (v := ?_) rfl (by kernel_rfl) (fun _ _ _ h => h) (Or.inl ⟨by rfl, fun w0 hw0 => ?_⟩) (fun p hp _ => hSw p hp) ?_
    rotate_left
    · simp [Reads] at hw0
      go_simp
      try with_reducible rfl
    try go_simp
    refine takeU (i := 4) (v := ?_) rfl (by kernel_rfl) (fun _ _ _ h => h) (Or.inl ⟨by rfl, fun w0 hw0 => ?_⟩) (fun p hp _ => hSw p hp) ?_
    rotate_left
    · simp [Reads] at hw0
      go_simp
      try with_reducible rfl
    try go_simp
    refine takeU (i := 5) (v := ?_) rfl (by kernel_rfl) (fun _ _ _ h => h) (Or.inl ⟨by rfl, fun w0 hw0 => ?_⟩) (fun p hp _ => hSw p hp) ?_
    rotate_left
    · simp [Reads] at hw0
      go_simp
      try with_reducible rfl
    try go_simp
    refine oneU (i := 6) rfl (by kernel_rfl) (fun K hK => ?_)
    go_simp
    go_at_call 44
    have hsz1 : xb ≤ wr.drew.heap.size := S1.k0 ▸ S1.ks.size
    refine (HP.out _ S1.rd hsz1).mono ?_
    rintro e w2 ⟨ax, cx, rfl, hV2, hr2, hk2⟩
    have S2 := S1.keepR hr2 hk2
    replace hV2 : OwnV w2 xb ax cx x := ownsRow_older hV2 hsz1
    refine hK _ _ ?_ ?_
    · exact fun p hp _ _ => one_read (F := fun w0 : World => w0.cell? ⟨mb, 19, none⟩ = some (.slice ao' e0.length c')) (cell19 S2.bm) p hp
    clear hK K S S1 hr2 hk2 HP hSw
    try go_simp
    refine oneU (i := 7) rfl (by kernel_rfl) (fun K hK => ?_)
    refine step_slice1 rfl 37 82 _ rfl i z (.slice ax x.length cx) 1 Tryd.underlying37 hi hz hsz rfl rfl (by omega) (by omega) ?_
    have S3 := S2.keep0 ((Keeps.refl [] w2).alloc (.cells #[.slice ax x.length cx] 82))
    have hV3 : OwnV (w2.alloc (.cells #[.slice ax x.length cx] 82)) xb ax cx x := ownsRow_keep hV2 ((Keeps.refl [] w2).alloc (.cells #[.slice ax x.length cx] 82)) (by simp)
    have hT := rr1 (r := ⟨ax, cx, x⟩) (Blk.fresh w2 82 #[.slice ax x.length cx])
    have hsz3 : xb ≤ (w2.alloc (.cells #[.slice ax x.length cx] 82)).heap.size := S3.k0 ▸ S3.ks.size
    refine hK _ _ (fun p hp _ _ => one_read (F := fun w0 : World => w0.cell? ⟨mb, 19, none⟩ = some (.slice ao' e0.length c')) (cell19 S3.bm) p hp) ?_
    clear hK K S2 hV2
    change wpAnyU _ _ _ _ _ _ _ _ (World.alloc _ (.cells #[.slice ax x.length cx] 82))
    try go_simp
    refine oneU (i := 8) rfl (by kernel_rfl) (fun K hK => ?_)
    obtain ⟨l0, g1, g2, g3⟩ := S3.or
    have g1' : l0.map (·.l) = e0 := g1
    have hl0 : l0.length = e0.length := by rw [← g1', List.length_map]
    have g2' : World.ownsRow _ xb 82 1 (.slice ao' l0.length c') l0.length (l0.map Ro.cell) := g2
    rw [hl0] at g2'
    refine step_append_by rfl _ _ 37 37 rfl xb 82 i z 1 24 Tryd.underlying37 hi hz hsz hby hzc ao' _ c' _ rfl g2' _ rfl 1 _ (hT.src Tryd.underlying37) (by have := HEL.out; unfold maxLen; omega) (by have := HEL.out; omega) hsz3 ?_
    intro a3 c3 w3 hO3 hk3 hb3
    obtain ⟨hM3, S4⟩ := S3.app_rows g2 hk3 (ao := a3) (c := c3) (l := l0 ++ [⟨ax, cx, x⟩]) (by show World.ownsRow _ _ _ _ _ _ _; rw [List.map_append, List.length_append, hl0]; exact hO3) (fun q hq => by
      rcases List.mem_append.1 hq with hq | hq
      · exact g3 q hq
      · simp only [List.mem_singleton] at hq
        subst hq
        exact hV3)
    rw [List.length_append, hl0, List.map_append, g1'] at S4
    change MSt w (w3.setCell ⟨mb, 19, none⟩ (.slice a3 (e0.length + 1) c3)) _ _ _ _ { D5 with rows := e0 ++ [x] } _ at S4
    refine hK _ _ (fun p hp _ _ => one_read (F := fun w0 : World => w0.cell? ⟨mb, 19, none⟩ = some (.slice ao' e0.length c')) (cell19 hM3) p hp) ?_
    clear hK K S3 hO3 hk3 hb3 hT hsz3 hV3 g1 g2 g3 g2'
    try go_simp
    have hSw := one_read (i := 4) (F := fun w0 : World => w0.cell? ⟨mb, 19, none⟩ = some (.slice ao' e0.length c')) (cell19 hM3)
    refine takeU (i := 9) (v := ?_) rfl (by kernel_rfl) (fun _ _ _ h => h) (Or.inl ⟨by rfl, fun w0 hw0 => ?_⟩) (fun p hp _ => hSw p hp) ?_
    rotate_left
    · simp [Reads] at hw0
      go_simp
      try with_reducible rfl
    try go_simp
    refine takeU (i := 10) (v := ?_) rfl (by kernel_rfl) (fun _ _ _ h => h) (Or.inl ⟨by rfl, fun w0 hw0 => ?_⟩) (fun p hp _ => hSw p hp) ?_
    rotate_left
    · simp [Reads] at hw0
      go_simp
      try with_reducible rfl
    try go_simp
    have hfB := hM3.free
    have hlB := hM3.lt
    have hcB := cell19 hM3
    dsimp only at hcB
    refine oneU (i := 11) rfl (by kernel_rfl) (fun K hK => ?_)
    go_simp
    refine hK _ _ (fun p hp h1 _ => by simp only [List.mem_singleton] at hp; subst hp; exact waits_absurd h1 (by kernel_rfl)) ?_
    clear hK K hM3 hfB hlB hcB hSw hl0 g1'
    refine doneU (by kernel_rfl) ?_
    generalize World.setCell _ _ _ = w4 at *
    go_wp2_with fail
    go_roundw
    case rel => exact ⟨j + 1, s2', e0 ++ [x], a3, c3, by simp, by omega, by rw [List.length_append, HEL.out]; rfl, S4, by rw [← HES.out, List.append_assoc]; rfl⟩
    case measure => simp [intOf]; omega
  subst hje
  rw [Nat.sub_self] at hes
  change (e0 ++ [], s') = (rw, s27) at hes
  rw [List.append_nil] at hes
  simp only [Prod.mk.injEq] at hes
  obtain ⟨h1, h2⟩ := hes
  subst h2
  clear hel hj i z hi hz hsz hby hzc
  go_upto_region 19 with (fail)
  obtain ⟨D6, hD6⟩ : ∃ D6 : Md, D6 = { D5 with rows := e0 } := ⟨_, rfl⟩
  obtain ⟨A6, hA6⟩ : ∃ A6 : Ma, A6 = { A5 with ra := ao', rc := c' } := ⟨_, rfl⟩
  rw [← hD6, ← hA6] at S
  have hDd : D6 = dd := by rw [hD6, HD5.out, HD4.out, HD3.out, HD2.out, HD1.out, h1, ← HDD.out]
  rw [hDd] at S
  have hrw : dd.rows = rw := by rw [← HDD.out]
  have hMA : MsgAt wr dd A6 := S.at (fun l hl => HWF.out l (hrw ▸ hl))
  have HWR := Lib.hid (show ∀ l ∈ dd.rows, ∀ v ∈ l, (Lit.int .i64 v.int).wf = true from fun l hl => HWF.out l (hrw ▸ hl))
  have PM := putMsg_any dd A6 wr hMA HNM.out
  obtain ⟨cs, hcs⟩ : ∃ cs, cs = msgCells dd A6 := ⟨_, rfl⟩
  have hM := S.bm
  rw [← hcs] at hM PM
  have hcsz : cs.size = 23 := by rw [hcs]; rfl
  have HPM := Lib.hid PM
  have HCS := Lib.hid hcs
  clear hD6 hA6 HD1 HD2 HD3 HD4 HD5 HDD HWF HNM hDd hrw PM hcs h1
  obtain ⟨xa, xc, hRb, hn, hm, hc⟩ := S.rd.open
  clear hm hn
  as_aux_lemma =>
  rcases hc with ⟨hf, hB⟩ | ⟨hf, g, p, hB, hG⟩
  rotate_left
  · have hcc := hB.cell
    have hll := hB.lt
    have HF := Lib.hid hf
    clear hf hRb
    go_wp2_with (refine wpList_built rfl 43 _ rfl [] #[.int .i64 0, .int .i64 0, .int .i64 0, .int .u64 0, .int .u64 0, .int .u64 0, .slice none 0 0, .int .u64 0, .int .u64 0, .bool false, .int .i64 0, .slice none 0 0, .bool false, .int .u64 0, .int .u64 0, .string ⟨#[]⟩, .int .u64 0, .int .i64 0, .slice none 0 0, .slice none 0 0, .int .i64 0, .int .u64 0, .int .i64 0] built_Z rfl ?_)
    refine (wform _ _).mono ?_
    rintro e w40 ⟨g40, rfl, hE40, hk40⟩
    have S40 := S.keep0 hk40
    go_wp2_with (refine wpList_store_agg rfl rfl 43 _ _ rfl xb 0 ?_ ((#[.int .i64 0, .int .i64 0, .int .i64 0, .int .u64 0, .int .u64 0, .int .u64 0, .slice none 0 0, .int .u64 0, .int .u64 0, .bool false, .int .i64 0, .slice none 0 0, .bool false, .int .u64 0, .int .u64 0, .string ⟨#[]⟩, .int .u64 0, .int .i64 0, .slice none 0 0, .slice none 0 0, .int .i64 0, .int .u64 0, .int .i64 0] : Array Value).toList) ?_ 43 #[.int .i64 0, .int .i64 0, .int .i64 0, .int .u64 0, .int .u64 0, .int .u64 0, .slice none 0 0, .int .u64 0, .int .u64 0, .bool false, .int .i64 0, .slice none 0 0, .bool false, .int .u64 0, .int .u64 0, .string ⟨#[]⟩, .int .u64 0, .int .i64 0, .slice none 0 0, .slice none 0 0, .int .i64 0, .int .u64 0, .int .i64 0] S40.bx Tryd.sizeM ?_ ?_ #[.int .i64 0, .int .i64 0, .int .i64 0, .int .u64 0, .int .u64 0, .int .u64 0, .slice none 0 0, .int .u64 0, .int .u64 0, .bool false, .int .i64 0, .slice none 0 0, .bool false, .int .u64 0, .int .u64 0, .string ⟨#[]⟩, .int .u64 0, .int .i64 0, .slice none 0 0, .slice none 0 0, .int .i64 0, .int .u64 0, .int .i64 0] ?_ ?_; rfl; rfl; simp; rfl; rfl; intro w41 hB41 hk41)
    have hkk := S40.ks.step hk41 (fun x hx => by simp at hx; have := S40.k0; right; omega)
    exact bodyPost_ret (results_ct rfl rfl hB41 Tryd.underlying43 rfl Tryd.sizeM) rfl ⟨zeroMd, zeroMa, _, rfl, zero_at _, fun _ _ _ _ => zero_at _, hkk, .inr ⟨(ErrF.of (f := 20) hE40 (by simp)).keepR S40.bx (by decide) hk41, fun hh => HF.out hh.1, rfl, rfl⟩⟩
  by_cases hl0 : s'.l = []
  rotate_left
  · have hcc := hB.cell
    have hll := hB.lt
    have HF := Lib.hid hl0
    have hne : ((s'.l.length : Int) == 0) = false := by
      have : s'.l.length ≠ 0 := fun h => hl0 (List.eq_nil_of_length_eq_zero h)
      simp
      exact hl0
    clear hf hRb hl0
    go_wp2_with (refine wpList_built rfl 43 _ rfl [] #[.int .i64 0, .int .i64 0, .int .i64 0, .int .u64 0, .int .u64 0, .int .u64 0, .slice none 0 0, .int .u64 0, .int .u64 0, .bool false, .int .i64 0, .slice none 0 0, .bool false, .int .u64 0, .int .u64 0, .string ⟨#[]⟩, .int .u64 0, .int .i64 0, .slice none 0 0, .slice none 0 0, .int .i64 0, .int .u64 0, .int .i64 0] built_Z rfl ?_)
    refine (wform _ _).mono ?_
    rintro e w40 ⟨g40, rfl, hE40, hk40⟩
    have S40 := S.keep0 hk40
    go_wp2_with (refine wpList_store_agg rfl rfl 43 _ _ rfl xb 0 ?_ ((#[.int .i64 0, .int .i64 0, .int .i64 0, .int .u64 0, .int .u64 0, .int .u64 0, .slice none 0 0, .int .u64 0, .int .u64 0, .bool false, .int .i64 0, .slice none 0 0, .bool false, .int .u64 0, .int .u64 0, .string ⟨#[]⟩, .int .u64 0, .int .i64 0, .slice none 0 0, .slice none 0 0, .int .i64 0, .int .u64 0, .int .i64 0] : Array Value).toList) ?_ 43 #[.int .i64 0, .int .i64 0, .int .i64 0, .int .u64 0, .int .u64 0, .int .u64 0, .slice none 0 0, .int .u64 0, .int .u64 0, .bool false, .int .i64 0, .slice none 0 0, .bool false, .int .u64 0, .int .u64 0, .string ⟨#[]⟩, .int .u64 0, .int .i64 0, .slice none 0 0, .slice none 0 0, .int .i64 0, .int .u64 0, .int .i64 0] S40.bx Tryd.sizeM ?_ ?_ #[.int .i64 0, .int .i64 0, .int .i64 0, .int .u64 0, .int .u64 0, .int .u64 0, .slice none 0 0, .int .u64 0, .int .u64 0, .bool false, .int .i64 0, .slice none 0 0, .bool false, .int .u64 0, .int .u64 0, .string ⟨#[]⟩, .int .u64 0, .int .i64 0, .slice none 0 0, .slice none 0 0, .int .i64 0, .int .u64 0, .int .i64 0] ?_ ?_; rfl; rfl; simp; rfl; rfl; intro w41 hB41 hk41)
    have hkk := S40.ks.step hk41 (fun x hx => by simp at hx; have := S40.k0; right; omega)
    exact bodyPost_ret (results_ct rfl rfl hB41 Tryd.underlying43 rfl Tryd.sizeM) rfl ⟨zeroMd, zeroMa, _, rfl, zero_at _, fun _ _ _ _ => zero_at _, hkk, .inr ⟨(ErrF.of (f := 20) hE40 (by simp)).keepR S40.bx (by decide) hk41, fun hh => HF.out hh.2.1, rfl, rfl⟩⟩
  have hcc := hB.cell
  have hll := hB.lt
  rw [hl0] at hcc
  have HF := Lib.hid (And.intro hf hl0)
  clear hf hRb hl0
  go_wp2_with (refine wpList_load_agg rfl 43 _ rfl mb 0 23 ?_ 43 cs _ hM Tryd.underlying43 rfl Tryd.sizeM ?_ cs ?_ ?_; rfl; omega; exact take23 cs hcsz)
  refine HPM.out.mono ?_
  rintro e w38 ⟨bo, bc, ev, rfl, hO, hE, hk38⟩
  have S2 := S.keep0 hk38
  clear hB hcc hll HPM
  have hM2 := hM.keep hk38 (by simp)
  clear hM S
  as_aux_lemma =>
  cases hmay : dd.may with
  | false =>
    rw [hmay] at hO hE
    simp only [Bool.false_eq_true, if_false] at hO hE
    obtain ⟨tt, tv, rfl⟩ := hE.bad (by decide)
    have HMAY := Lib.hid hmay
    clear hmay
    simp only [Bool.false_eq_true, if_false]
    go_wp2_with (refine wpList_built rfl 43 _ rfl [] #[.int .i64 0, .int .i64 0, .int .i64 0, .int .u64 0, .int .u64 0, .int .u64 0, .slice none 0 0, .int .u64 0, .int .u64 0, .bool false, .int .i64 0, .slice none 0 0, .bool false, .int .u64 0, .int .u64 0, .string ⟨#[]⟩, .int .u64 0, .int .i64 0, .slice none 0 0, .slice none 0 0, .int .i64 0, .int .u64 0, .int .i64 0] built_Z rfl ?_)
    refine (wform _ _).mono ?_
    rintro e w40 ⟨g40, rfl, hE40, hk40⟩
    have S40 := S2.keep0 hk40
    go_wp2_with (refine wpList_store_agg rfl rfl 43 _ _ rfl xb 0 ?_ ((#[.int .i64 0, .int .i64 0, .int .i64 0, .int .u64 0, .int .u64 0, .int .u64 0, .slice none 0 0, .int .u64 0, .int .u64 0, .bool false, .int .i64 0, .slice none 0 0, .bool false, .int .u64 0, .int .u64 0, .string ⟨#[]⟩, .int .u64 0, .int .i64 0, .slice none 0 0, .slice none 0 0, .int .i64 0, .int .u64 0, .int .i64 0] : Array Value).toList) ?_ 43 #[.int .i64 0, .int .i64 0, .int .i64 0, .int .u64 0, .int .u64 0, .int .u64 0, .slice none 0 0, .int .u64 0, .int .u64 0, .bool false, .int .i64 0, .slice none 0 0, .bool false, .int .u64 0, .int .u64 0, .string ⟨#[]⟩, .int .u64 0, .int .i64 0, .slice none 0 0, .slice none 0 0, .int .i64 0, .int .u64 0, .int .i64 0] S40.bx Tryd.sizeM ?_ ?_ #[.int .i64 0, .int .i64 0, .int .i64 0, .int .u64 0, .int .u64 0, .int .u64 0, .slice none 0 0, .int .u64 0, .int .u64 0, .bool false, .int .i64 0, .slice none 0 0, .bool false, .int .u64 0, .int .u64 0, .string ⟨#[]⟩, .int .u64 0, .int .i64 0, .slice none 0 0, .slice none 0 0, .int .i64 0, .int .u64 0, .int .i64 0] ?_ ?_; rfl; rfl; simp; rfl; rfl; intro w41 hB41 hk41)
    have hkk := S40.ks.step hk41 (fun x hx => by simp at hx; have := S40.k0; right; omega)
    exact bodyPost_ret (results_ct rfl rfl hB41 Tryd.underlying43 rfl Tryd.sizeM) rfl ⟨zeroMd, zeroMa, _, rfl, zero_at _, fun _ _ _ _ => zero_at _, hkk, .inr ⟨(ErrF.of (f := 20) hE40 (by simp)).keepR S40.bx (by decide) hk41, fun hh => by rw [HMAY.out] at hh; exact absurd hh.2.2.1 (by simp), rfl, rfl⟩⟩
  | true =>
    rw [hmay] at hO hE
    simp only [if_true] at hO hE
    have hev := hE.zero.2 rfl
    subst hev
    have HMAY := Lib.hid hmay
    clear hmay hE
    simp only [if_true]
    have hH := H.out.keep0 S2.ks
    by_cases hpe : putMd dd = l
    · have Q := beq_any bo ao bc c (putMd dd) l w38 hO.rb hH
      rw [beq_iff_eq.2 hpe] at Q
      have HPE := Lib.hid hpe
      clear hpe
      go_wp2_with fail
      refine Q.mono ?_
      rintro e w' ⟨rfl, hw⟩
      obtain rfl := hw.symm
      clear hw Q
      go_wp2_with (first
        | (refine wpList_load_agg rfl 43 _ rfl mb 0 23 ?_ 43 cs _ hM2 Tryd.underlying43 rfl Tryd.sizeM ?_ cs ?_ ?_; rfl; omega; exact take23 cs hcsz)
        | (refine wpList_store_agg rfl rfl 43 _ _ rfl xb 0 ?_ cs.toList ?_ 43 #[.int .i64 0, .int .i64 0, .int .i64 0, .int .u64 0, .int .u64 0, .int .u64 0, .slice none 0 0, .int .u64 0, .int .u64 0, .bool false, .int .i64 0, .slice none 0 0, .bool false, .int .u64 0, .int .u64 0, .string ⟨#[]⟩, .int .u64 0, .int .i64 0, .slice none 0 0, .slice none 0 0, .int .i64 0, .int .u64 0, .int .i64 0] S2.bx ?_ ?_ ?_ cs ?_ ?_; rfl; rfl; (rw [Array.length_toList, hcsz]; exact Tryd.sizeM); (rw [Array.length_toList, hcsz]; simp); (rw [HCS.out]; rfl); exact store23 cs hcsz; intro w41 hB41 hk41))
      have hkk := S2.ks.step hk41 (fun x hx => by simp at hx; have := S2.k0; right; omega)
      exact bodyPost_ret (results_ct rfl rfl hB41 Tryd.underlying43 rfl (by rw [hcsz]; exact Tryd.sizeM)) rfl ⟨dd, A6, _, by rw [HCS.out]; rfl, S2.fin hk41 HWR.out, fun b w'' hb hk2 => S2.fin2 hk41 HWR.out (by have := S2.k0; omega) hk2, hkk, .inl ⟨rfl, ⟨HF.out.1, HF.out.2, HMAY.out, HPE.out⟩, rfl⟩⟩
    · have Q := beq_any bo ao bc c (putMd dd) l w38 hO.rb hH
      rw [beq_eq_false_iff_ne.2 hpe] at Q
      have HPE := Lib.hid hpe
      clear hpe
      go_wp2_with fail
      refine Q.mono ?_
      rintro e w' ⟨rfl, hw⟩
      obtain rfl := hw.symm
      clear hw Q
      go_wp2_with (refine wpList_built rfl 43 _ rfl [] #[.int .i64 0, .int .i64 0, .int .i64 0, .int .u64 0, .int .u64 0, .int .u64 0, .slice none 0 0, .int .u64 0, .int .u64 0, .bool false, .int .i64 0, .slice none 0 0, .bool false, .int .u64 0, .int .u64 0, .string ⟨#[]⟩, .int .u64 0, .int .i64 0, .slice none 0 0, .slice none 0 0, .int .i64 0, .int .u64 0, .int .i64 0] built_Z rfl ?_)
      refine (wform _ _).mono ?_
      rintro e w40 ⟨g40, rfl, hE40, hk40⟩
      have S40 := S2.keep0 hk40
      go_wp2_with (refine wpList_store_agg rfl rfl 43 _ _ rfl xb 0 ?_ ((#[.int .i64 0, .int .i64 0, .int .i64 0, .int .u64 0, .int .u64 0, .int .u64 0, .slice none 0 0, .int .u64 0, .int .u64 0, .bool false, .int .i64 0, .slice none 0 0, .bool false, .int .u64 0, .int .u64 0, .string ⟨#[]⟩, .int .u64 0, .int .i64 0, .slice none 0 0, .slice none 0 0, .int .i64 0, .int .u64 0, .int .i64 0] : Array Value).toList) ?_ 43 #[.int .i64 0, .int .i64 0, .int .i64 0, .int .u64 0, .int .u64 0, .int .u64 0, .slice none 0 0, .int .u64 0, .int .u64 0, .bool false, .int .i64 0, .slice none 0 0, .bool false, .int .u64 0, .int .u64 0, .string ⟨#[]⟩, .int .u64 0, .int .i64 0, .slice none 0 0, .slice none 0 0, .int .i64 0, .int .u64 0, .int .i64 0] S40.bx Tryd.sizeM ?_ ?_ #[.int .i64 0, .int .i64 0, .int .i64 0, .int .u64 0, .int .u64 0, .int .u64 0, .slice none 0 0, .int .u64 0, .int .u64 0, .bool false, .int .i64 0, .slice none 0 0, .bool false, .int .u64 0, .int .u64 0, .string ⟨#[]⟩, .int .u64 0, .int .i64 0, .slice none 0 0, .slice none 0 0, .int .i64 0, .int .u64 0, .int .i64 0] ?_ ?_; rfl; rfl; simp; rfl; rfl; intro w41 hB41 hk41)
      have hkk := S40.ks.step hk41 (fun x hx => by simp at hx; have := S40.k0; right; omega)
      exact bodyPost_ret (results_ct rfl rfl hB41 Tryd.underlying43 rfl Tryd.sizeM) rfl ⟨zeroMd, zeroMa, _, rfl, zero_at _, fun _ _ _ _ => zero_at _, hkk, .inr ⟨(ErrF.of (f := 20) hE40 (by simp)).keepR S40.bx (by decide) hk41, fun hh => HPE.out hh.2.2.2, rfl, rfl⟩⟩
end Go.Proofs.YtllcidpmdmacjaaDoor
