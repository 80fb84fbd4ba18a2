/- A node of a group: questions that wait; released. -/
import Derived.Test.YtdeaelbelcjhcaaDoorRaft30
import Derived.Test.YtdeaelbelcjhcaaDoorRaft9


namespace Go.Proofs.YtdeaelbelcjhcaaDoor
open Go.RowKit

/-- a question that waits: its tag, its index, its round -/
structure Rq where
  tag : Int
  ix : Int
  rd : Int
def Rq.cells (q : Rq) : List Value := [.int .u64 q.tag, .int .u64 q.ix, .int .u64 q.rd]
def Rq.done (q : Rq) : List Value := [.int .u64 q.tag, .int .u64 q.ix]
def rqs : List Rq → List Value
  | [] => []
  | q :: l => q.cells ++ rqs l
def dns : List Rq → List Value
  | [] => []
  | q :: l => q.done ++ dns l
theorem rqs_drop (l : List Rq) (k : Nat) : rqs (l.drop k) = (rqs l).drop (k * 3) := by
  induction l generalizing k with
  | nil => simp [rqs]
  | cons e l ih =>
    cases k with
    | zero => simp
    | succ k =>
      have h5 : (k + 1) * 3 = 3 + k * 3 := by omega
      simp only [List.drop_succ_cons, ih, rqs, h5]
      rw [← List.drop_drop]
      rfl
theorem dns_append (l m : List Rq) : dns (l ++ m) = dns l ++ dns m := by
  induction l with
  | nil => rfl
  | cons e l ih => simp [dns, ih]
theorem dns_length (l : List Rq) : (dns l).length = l.length * 2 := by
  induction l with
  | nil => rfl
  | cons e l ih => simp [dns, Rq.done, ih]; omega
theorem dns_one (l : List Rq) : ∀ u ∈ dns l, u.oneCell' = true := by
  induction l with
  | nil => intro u hu; simp [dns] at hu
  | cons e l ih =>
    intro u hu
    rcases List.mem_append.1 hu with hu | hu
    · simp [Rq.done] at hu
      rcases hu with rfl | rfl <;> rfl
    · exact ih u hu

/-- questions that wait, in a slice elder than N -/
structure QsAt (w : World) (N : Nat) (X : List Nat) (s : Sl3) (rl : List Rq) : Prop where
  sl : Sl w 3 s.1 s.2.1 s.2.2 (rqs rl)
  len : s.2.1 = rl.length
  away : ∀ ad, s.1 = some ad → rl ≠ [] → ad.block ∉ X ∧ ad.block < N

section
variable {w w' : World} {N : Nat} {s : Sl3} {rl : List Rq} {L X X' : List Nat}
theorem QsAt.keep (h : QsAt w N X s rl) (hk : Keeps L w w') (hL : ∀ x ∈ L, x ∈ X ∨ N ≤ x) : QsAt w' N X s rl :=
  ⟨h.sl.keep hk (fun ad e hx hm => by
    have hne : rl ≠ [] := by rintro rfl; exact hx rfl
    have := h.away ad e hne
    rcases hL _ hm with h | h
    · exact this.1 h
    · omega), h.len, h.away⟩
theorem QsAt.grow {N' : Nat} (h : QsAt w N X s rl) (hN : N ≤ N') : QsAt w N' X s rl := ⟨h.sl, h.len, fun ad e hx => by have := h.away ad e hx; exact ⟨this.1, by omega⟩⟩
theorem QsAt.add (h : QsAt w N X s rl) (hX : ∀ x ∈ X', x ∈ X ∨ N ≤ x) : QsAt w N X' s rl := ⟨h.sl, h.len, fun ad e hx => by
  have := h.away ad e hx
  refine ⟨fun hm => ?_, this.2⟩
  rcases hX _ hm with h | h
  · exact this.1 h
  · omega⟩
theorem QsAt.nil (w : World) (N : Nat) (X : List Nat) : QsAt w N X (none, 0, 0) [] := ⟨Sl.none w 3, rfl, fun _ e => by cases e⟩
theorem QsAt.tail (h : QsAt w N X s rl) {q : Rq} {l : List Rq} (hl : rl = q :: l) :
    QsAt w N X (if s.2.2 = 1 then s.1 else s.1.map (·.add 3), s.2.1 - 1, s.2.2 - 1) l := by
  subst hl
  have h1 : 1 ≤ s.2.1 := by rw [h.len]; simp
  have hd := h.sl.drop (k := 1) h1
  simp only [Nat.one_mul] at hd
  have e : (rqs (q :: l)).drop 3 = rqs l := by simp [rqs, Rq.cells]
  rw [e] at hd
  refine ⟨hd, by simp [h.len], ?_⟩
  intro ad he hx
  simp only at he
  split at he
  · exact h.away ad he (by simp)
  · cases hs : s.1 with
    | none => rw [hs] at he; cases he
    | some a0 =>
      rw [hs] at he
      simp only [Option.map_some, Option.some.injEq] at he
      have h3 := h.away a0 hs (by simp)
      have hc : 0 < s.2.2 := by have := h.sl.cap; omega
      rw [addr_add (h.sl.spot hc a0 hs)] at he
      subst he
      exact h3
end

/-- how many have answered a round -/
def acks (ps : List Pe) (i : Int) : Nat := (ps.filter fun p => decide (i ≤ p.ak)).length
theorem acks_take {ps : List Pe} {k : Nat} {p : Pe} (h : ps[k]? = some p) (i : Int) : acks (ps.take (k + 1)) i = acks (ps.take k) i + (if i ≤ p.ak then 1 else 0) := by
  obtain ⟨hl, rfl⟩ := List.getElem?_eq_some_iff.1 h
  unfold acks
  rw [List.take_succ_eq_append_getElem hl, List.filter_append, List.length_append]
  congr 1
  split
  · rename_i h1
    simp [h1]
  · rename_i h1
    simp [h1]
theorem acks_le (ps : List Pe) (i : Int) : acks ps i ≤ ps.length := List.length_filter_le _ _

/-- how many questions are done: those ahead of the first that is not -/
def doneN (n : Int) (ps : List Pe) : List Rq → Nat
  | [] => 0
  | q :: l => if n < 2 * (acks ps q.rd : Int) then doneN n ps l + 1 else 0

/-- a node in the midst of a step that began at w0 -/
structure HS (X : List Nat) (w0 w : World) (b pb : Nat) (r : Rf) (g : Lg) (ps : List Pe) (ys : List Value) (rl dl : List Rq) : Prop where
  R : RC w w0.heap.size b pb r g ps
  O : Ow w w0.heap.size r.ms ys
  D : w.ownsRow w0.heap.size 98 2 (.slice r.dn.1 r.dn.2.1 r.dn.2.2) r.dn.2.1 (dns dl)
  Q : QsAt w w0.heap.size X r.rs rl
  K : Keeps [b, pb] w0 w
  bX : b ∈ X
  pX : pb ∈ X

section
variable {w0 w w' : World} {b pb : Nat} {r r' : Rf} {g : Lg} {ps : List Pe} {ys : List Value} {rl dl : List Rq} {L X : List Nat}
/-- a step that turns new blocks of other types -/
theorem HS.keep (h : HS X w0 w b pb r g ps ys rl dl) (hk : Keeps L w w') (hL : ∀ x ∈ L, w0.heap.size ≤ x ∧ x ∉ blks r.ms.1 ∧ x ∉ blks r.dn.1) : HS X w0 w' b pb r g ps ys rl dl :=
  ⟨h.R.keep hk (fun x hx => (hL x hx).1), own_keep h.O hk (fun x hx hm => (hL x hm).2.1 hx), own_keep h.D hk (fun x hx hm => (hL x hm).2.2 hx), h.Q.keep hk (fun x hx => .inr (hL x hx).1), h.K.step hk (fun x hx => .inr (hL x hx).1), h.bX, h.pX⟩
theorem HS.keep0 (h : HS X w0 w b pb r g ps ys rl dl) (hk : Keeps [] w w') : HS X w0 w' b pb r g ps ys rl dl := h.keep hk (fun _ hx => by cases hx)
end

theorem rdsQ {w : World} {b rb ro m sc : Nat} {r : Rf} {q : Rq} (hB : Blk w b 63 r.cells) (hrs : r.rs = (some ⟨rb, ro, none⟩, m, sc)) (e0 : w.cell? ⟨rb, ro, none⟩ = some (.int .u64 q.tag)) (e1 : w.cell? ⟨rb, ro + 1, none⟩ = some (.int .u64 q.ix)) : ∀ p ∈ [((5 : Nat), fun w0 : World => w0.cell? ⟨b, 19, none⟩ = some (.slice r.dn.1 r.dn.2.1 r.dn.2.2)), ((9 : Nat), fun w0 : World => w0.cell? ⟨b, 14, none⟩ = some (.slice (some ⟨rb, ro, none⟩) m sc)), ((12 : Nat), fun w0 : World => w0.cell? ⟨rb, ro, none⟩ = some (.int .u64 q.tag)), ((16 : Nat), fun w0 : World => w0.cell? ⟨b, 14, none⟩ = some (.slice (some ⟨rb, ro, none⟩) m sc)), ((19 : Nat), fun w0 : World => w0.cell? ⟨rb, ro + 1, none⟩ = some (.int .u64 q.ix))], p.2 w := by
  have h19 := hB.cell 19
  have h14 := hB.cell 14
  simp [Rf.cells, hrs] at h19 h14
  intro p hp
  simp at hp
  rcases hp with rfl | rfl | rfl | rfl | rfl
  · exact h19
  · exact h14
  · exact e0
  · exact h14
  · exact e1
theorem QsAt.two {w : World} {N rb ro m sc : Nat} {X : List Nat} {q : Rq} {l : List Rq} {s : Sl3} (h : QsAt w N X s (q :: l)) (hs : s = (some ⟨rb, ro, none⟩, m, sc)) : w.cell? ⟨rb, ro, none⟩ = some (.int .u64 q.tag) ∧ w.cell? ⟨rb, ro + 1, none⟩ = some (.int .u64 q.ix) := by
  subst hs
  have e0 := h.sl.cell _ rfl 0 (.int .u64 q.tag) (by simp [rqs, Rq.cells])
  have e1 := h.sl.cell _ rfl 1 (.int .u64 q.ix) (by simp [rqs, Rq.cells])
  exact ⟨by simpa using e0, e1⟩
theorem built_D (t i : Int) : Tryd.prog.built 98 [(0, .int .u64 t), (1, .int .u64 i)] = some #[.int .u64 t, .int .u64 i] := by kernel_rfl

set_option maxRecDepth 100000 in
set_option maxHeartbeats 8000000 in
theorem rreleased (X : List Nat) (b pb : Nat) (r : Rf) (g : Lg) (ps : List Pe) (ys : List Value) (rl : List Rq) (w0 w : World) (hH : HS X w0 w b pb r g ps ys rl []) (hn : r.n = (ps.length : Int)) (h7 : ps.length ≤ 7) (hrl : rl.length ≤ 1000) :
    Calls Tryd.prog 33 #[.pointer (some ⟨b, 0, none⟩)] w fun e w' => ∃ d s, e = .returned (.tuple #[]) ∧ HS X w0 w' b pb { r with dn := d, rs := s } g ps ys (rl.drop (doneN r.n ps rl)) (rl.take (doneN r.n ps rl)) := by
  obtain ⟨i, z, hi, hz, hsz, hby, hzc⟩ := infoD
  obtain ⟨K, hK⟩ : ∃ K, doneN r.n ps rl = K := ⟨_, rfl⟩
  rw [hK]
  have HK := Lib.hid hK
  clear hK
  go_enter Tryd.func33, Tryd.ntmps33
  go_wp2_with fail
  go_loopw [] (fun wr => ∃ (k : Nat) (d s : Sl3), doneN r.n ps (rl.drop k) + k = K ∧ k ≤ rl.length ∧ HS X w0 wr b pb { r with dn := d, rs := s } g ps ys (rl.drop k) (rl.take k)) (fun wr => match wr.cell? ⟨b, 14, none⟩ with | some (.slice _ n _) => n | _ => 0)
  case atStart => exact ⟨0, r.dn, r.rs, by simpa using HK.out, by omega, by simpa using hH⟩
  case round =>
    obtain ⟨k, d, s, hdk, hk, hHk⟩ := hrel
    clear hH
    have hcB := hHk.R.B.cell
    have hps : r.ps = (some ⟨pb, 0, none⟩, ps.length, ps.length) := hHk.R.hps
    simp only [Rf.cells, hps] at hcB
    have hl := hHk.R.B.lt
    have hql := hHk.Q.len
    obtain ⟨sa, sn, sc⟩ := s
    simp only at hql hcB
    subst hql
    by_cases hkl : k < rl.length
    rotate_left
    · have hkk : k = rl.length := by omega
      have hde : rl.drop k = [] := by rw [hkk, List.drop_length]
      have hKk : k = K := by rw [hde] at hdk; simpa [doneN] using hdk
      have HKK := Lib.hid hKk
      have HDE := Lib.hid hde
      rw [hde] at hcB
      simp only [List.length_nil] at hcB
      clear hdk hde hKk
      go_wp2_with fail
      go_end0
      rw [← HKK.out]
      exact ⟨d, (sa, (rl.drop k).length, sc), rfl, hHk⟩
    obtain ⟨q, l, hql⟩ : ∃ q l, rl.drop k = q :: l := ⟨rl[k], rl.drop (k + 1), List.drop_eq_getElem_cons hkl⟩
    have hdl : l = rl.drop (k + 1) := by
      have := congrArg List.tail hql
      simpa using this.symm
    have hqk : rl.take (k + 1) = rl.take k ++ [q] := by
      rw [List.take_succ_eq_append_getElem hkl]
      rw [List.drop_eq_getElem_cons hkl] at hql
      simp only [List.cons.injEq] at hql
      rw [hql.1]
    rw [hql] at hdk hHk hcB
    have HQ := Lib.hid (And.intro hql (And.intro hdl hqk))
    clear hql hdl hqk
    have hslq := hHk.Q.sl
    simp only at hslq
    obtain ⟨rb, ro, hsa⟩ := hslq.at (by have := hslq.cap; simp at this; omega)
    subst hsa
    have hcap : ((l.length : Int) + 1) ≤ (sc : Int) := by have := hslq.cap; simp at this; omega
    have e0 := hslq.cell _ rfl 0 (.int .u64 q.tag) (by simp [rqs, Rq.cells])
    have e1 := hslq.cell _ rfl 1 (.int .u64 q.ix) (by simp [rqs, Rq.cells])
    have e2 := hslq.cell _ rfl 2 (.int .u64 q.rd) (by simp [rqs, Rq.cells])
    simp only [Nat.add_zero] at e0
    simp only [List.length_cons] at hcB
    have n1 : (0 : Int) < ((l.length + 1 : Nat) : Int) := by omega
    go_wp2_with fail
    have HM0 := Lib.hid (show wr.cell? ⟨b, 14, none⟩ = some (.slice (some ⟨rb, ro, none⟩) (l.length + 1) sc) from hcB 14)
    clear e0 e1 e2 hcB hl hslq
    obtain ⟨r1, hr1⟩ : ∃ r1 : Rf, r1 = { r with dn := d, rs := (some ⟨rb, ro, none⟩, l.length + 1, sc) } := ⟨_, rfl⟩
    have hHk1 : HS X w0 wr b pb r1 g ps ys (q :: l) (rl.take k) := by rw [hr1]; exact hHk
    have hrs1 : r1.rs = (some ⟨rb, ro, none⟩, l.length + 1, sc) := by rw [hr1]
    have hrn1 : r1.n = r.n := by rw [hr1]
    have hrps1 : r1.ps = (some ⟨pb, 0, none⟩, ps.length, ps.length) := by rw [hr1]; exact hps
    have HR1 := Lib.hid hr1
    clear hHk hr1
    go_loopw [2, 16] (fun v2 v16 wi => ∃ j : Nat, v16 = .int .i64 (j : Int) ∧ j ≤ ps.length ∧ v2 = .int .i64 ((acks (ps.take j) q.rd : Nat) : Int) ∧ HS X w0 wi b pb r1 g ps ys (q :: l) (rl.take k)) (fun _ v _ => ps.length - (intOf v).toNat)
    case atStart => exact ⟨0, rfl, by omega, by simp [acks], hHk1⟩
    case round =>
      obtain ⟨j, rfl, hj, rfl, hHj⟩ := hrel
      clear hHk1
      have hcB := hHj.R.B.cell
      simp only [Rf.cells, hrps1, hrs1] at hcB
      have hl := hHj.R.B.lt
      have hlP := hHj.R.P.lt
      by_cases hlt : j < ps.length
      · have n2 : (j : Int) < (ps.length : Int) := by omega
        obtain ⟨p, hp⟩ : ∃ p, ps[j]? = some p := ⟨_, List.getElem?_eq_getElem hlt⟩
        obtain ⟨c0, c1, c2, c3⟩ := pe_cells hHj.R.P hp
        have ht := acks_take hp q.rd
        have HP := Lib.hid (And.intro hp ht)
        have hle := acks_le (ps.take j) q.rd
        rw [List.length_take] at hle
        have q2 : IntKind.i64.wrap ((j : Int) + 1) = j + 1 := IntWalk.i64_in _ (by omega)
        clear hp ht
        have hslq := hHj.Q.sl
        simp only [hrs1] at hslq
        have e2 := hslq.cell _ rfl 2 (.int .u64 q.rd) (by simp [rqs, Rq.cells])
        have hrl := block_lt_of_cell e2
        have hkm := (Keeps.refl [] wr).alloc (.cells #[.int .u64 p.nx, .int .u64 p.mt, .int .u64 p.ak, .int .i64 p.off] 78)
        have hHm := hHj.keep0 hkm
        clear hkm hHj hslq
        by_cases him : q.rd ≤ p.ak
        · have q3 : IntKind.i64.wrap (((acks (ps.take j) q.rd : Nat) : Int) + 1) = ((acks (ps.take j) q.rd : Nat) : Int) + 1 := IntWalk.i64_in _ (by omega)
          have HE : acks (ps.take (j + 1)) q.rd = acks (ps.take j) q.rd + 1 := by rw [HP.out.2, if_pos him]
          have HE2 := Lib.hid HE
          clear HE HP hle
          generalize acks (ps.take j) q.rd = hv at *
          go_wp2_with fail
          go_quiet (fail)
          go_wp2_with fail
          go_roundw
          case rel => exact ⟨j + 1, by simp, by omega, by rw [HE2.out]; simp, hHm.keep0 ((Keeps.refl [] _).drewN _)⟩
          case measure => simp [intOf]; omega
        · have HE : acks (ps.take (j + 1)) q.rd = acks (ps.take j) q.rd := by rw [HP.out.2, if_neg him]; omega
          have HE2 := Lib.hid HE
          clear HE HP hle
          generalize acks (ps.take j) q.rd = hv at *
          go_wp2_with fail
          go_quiet (fail)
          go_wp2_with fail
          go_roundw
          case rel => exact ⟨j + 1, by simp, by omega, by rw [HE2.out], hHm.keep0 ((Keeps.refl [] _).drewN _)⟩
          case measure => simp [intOf]; omega
      · obtain rfl : j = ps.length := by omega
        rw [List.take_length]
        have hle := acks_le ps q.rd
        have HM := Lib.hid (rmost b r1 (acks ps q.rd : Nat) wr hHj.R.B (by omega) (by omega))
        clear hcB hlP
        go_wp2_with fail
        refine HM.out.mono ?_
        rintro e w' ⟨rfl, hw⟩
        obtain rfl := hw.symm
        clear hw HM
        by_cases hmo : r.n < 2 * ((acks ps q.rd : Nat) : Int)
        rotate_left
        · have hd : decide (r1.n < 2 * ((acks ps q.rd : Nat) : Int)) = false := by rw [hrn1]; simpa using hmo
          have hKk : k = K := by simpa [doneN, hmo] using hdk
          have HKK := Lib.hid hKk
          have HD := Lib.hid hd
          rw [HD.out]
          clear hd hmo hKk hdk HD hle n1
          go_wp2_with fail
          (try simp only [Exit.inBlock, Exit.then])
          refine bodyPost_ret (results_none rfl _ _ _) rfl ?_
          refine ⟨d, (some ⟨rb, ro, none⟩, l.length + 1, sc), rfl, ?_⟩
          rw [← HKK.out]
          rw [HQ.out.1]
          have := hHj
          rw [HR1.out] at this
          exact this
        · have hd : decide (r1.n < 2 * ((acks ps q.rd : Nat) : Int)) = true := by rw [hrn1]; simpa using hmo
          have hKk : doneN r.n ps l + (k + 1) = K := by rw [← hdk]; simp [doneN, hmo]; omega
          have HKK := Lib.hid hKk
          have HD := Lib.hid hd
          rw [HD.out]
          clear hd hmo hKk hdk HD hle n1 hl
          go_upto_region 9 with (fail)
          have hbr : b ≠ rb := by
            have := hHj.Q.away
            rw [hrs1] at this
            have := this _ rfl (by simp)
            exact fun e => this.1 (by rw [← e]; exact hHj.bX)
          have hHd := hHj.keep0 (Keeps.refl [] wr).drew
          obtain ⟨e0, e1⟩ := hHd.Q.two hrs1
          have hSw := rdsQ hHd.R.B hrs1 e0 e1
          have hcl : (0 : Int) < (l.length : Int) + 1 := by omega
          have hrl := block_lt_of_cell e0
          refine startU (L := [((5 : Nat), fun w0 : World => w0.cell? ⟨b, 19, none⟩ = some (.slice r1.dn.1 r1.dn.2.1 r1.dn.2.2)), ((9 : Nat), fun w0 : World => w0.cell? ⟨b, 14, none⟩ = some (.slice (some ⟨rb, ro, none⟩) (l.length + 1) sc)), ((12 : Nat), fun w0 : World => w0.cell? ⟨rb, ro, none⟩ = some (.int .u64 q.tag)), ((16 : Nat), fun w0 : World => w0.cell? ⟨b, 14, none⟩ = some (.slice (some ⟨rb, ro, none⟩) (l.length + 1) sc)), ((19 : Nat), fun w0 : World => w0.cell? ⟨rb, ro + 1, none⟩ = some (.int .u64 q.ix))]) (by kernel_rfl) ?_
          refine takeU (i := 0) (v := ?_) rfl (by kernel_rfl) (fun _ _ _ h => h) (Or.inl ⟨by rfl, fun w0 hw0 => ?_⟩) (fun p hp _ => hSw p hp) ?_
          rotate_left
          · simp [Reads] at hw0
            go_simp
            try with_reducible rfl
          try go_simp
          refine takeU (i := 1) (v := ?_) rfl (by kernel_rfl) (fun _ _ _ h => h) (Or.inl ⟨by rfl, fun w0 hw0 => ?_⟩) (fun p hp _ => hSw p hp) ?_
          rotate_left
          · simp [Reads] at hw0
            go_simp
            try with_reducible rfl
          try go_simp
          refine takeU (i := 2) (v := ?_) rfl (by kernel_rfl) (fun _ _ _ h => h) (Or.inl ⟨by rfl, fun w0 hw0 => ?_⟩) (fun p hp _ => hSw p hp) ?_
          rotate_left
          · simp [Reads] at hw0
            go_simp
            try with_reducible rfl
          try go_simp
          refine takeU (i := 3) (v := ?_) rfl (by kernel_rfl) (fun _ _ _ h => h) (Or.inl ⟨by rfl, fun w0 hw0 => ?_⟩) (fun p hp _ => hSw p hp) ?_
          rotate_left
          · simp [Reads] at hw0
            go_simp
            try with_reducible rfl
          try go_simp
          refine takeU (i := 4) (v := ?_) rfl (by kernel_rfl) (fun _ _ _ h => h) (Or.inl ⟨by rfl, fun w0 hw0 => ?_⟩) (fun p hp _ => hSw p hp) ?_
          rotate_left
          · simp [Reads] at hw0
            go_simp
            try with_reducible rfl
          try go_simp
          refine takeU (i := 5) (v := ?_) rfl (by kernel_rfl) (fun _ _ _ h => h) (Or.inl ⟨by rfl, fun w0 hw0 => ?_⟩) (fun p hp _ => hSw p hp) ?_
          rotate_left
          · simp [Reads] at hw0
            go_simp
            try with_reducible rfl
          try go_simp
          refine takeU (i := 6) (v := ?_) rfl (by kernel_rfl) (fun _ _ _ h => h) (Or.inl ⟨by rfl, fun w0 hw0 => ?_⟩) (fun p hp _ => hSw p hp) ?_
          rotate_left
          · simp [Reads] at hw0
            go_simp
            try with_reducible rfl
          try go_simp
          refine takeU (i := 7) (v := ?_) rfl (by kernel_rfl) (fun _ _ _ h => h) (Or.inl ⟨by rfl, fun w0 hw0 => ?_⟩) (fun p hp _ => hSw p hp) ?_
          rotate_left
          · simp [Reads] at hw0
            go_simp
            try with_reducible rfl
          try go_simp
          refine takeU (i := 8) (v := ?_) rfl (by kernel_rfl) (fun _ _ _ h => h) (Or.inl ⟨by rfl, fun w0 hw0 => ?_⟩) (fun p hp _ => hSw p hp) ?_
          rotate_left
          · simp [Reads] at hw0
            go_simp
            try with_reducible rfl
          try go_simp
          refine takeU (i := 9) (v := ?_) rfl (by kernel_rfl) (fun _ _ _ h => h) (Or.inl ⟨by rfl, fun w0 hw0 => ?_⟩) (fun p hp _ => hSw p hp) ?_
          rotate_left
          · simp [Reads] at hw0
            go_simp
            try with_reducible rfl
          try go_simp
          refine takeU (i := 10) (v := ?_) rfl (by kernel_rfl) (fun _ _ _ h => h) (Or.inl ⟨by rfl, fun w0 hw0 => ?_⟩) (fun p hp _ => hSw p hp) ?_
          rotate_left
          · simp [Reads] at hw0
            go_simp
            try with_reducible rfl
          try go_simp
          refine takeU (i := 11) (v := ?_) rfl (by kernel_rfl) (fun _ _ _ h => h) (Or.inl ⟨by rfl, fun w0 hw0 => ?_⟩) (fun p hp _ => hSw p hp) ?_
          rotate_left
          · simp [Reads] at hw0
            go_simp
            try with_reducible rfl
          try go_simp
          refine takeU (i := 12) (v := ?_) rfl (by kernel_rfl) (fun _ _ _ h => h) (Or.inl ⟨by rfl, fun w0 hw0 => ?_⟩) (fun p hp _ => hSw p hp) ?_
          rotate_left
          · simp [Reads] at hw0
            go_simp
            try with_reducible rfl
          try go_simp
          refine takeU (i := 13) (v := ?_) rfl (by kernel_rfl) (fun _ _ _ h => h) (Or.inl ⟨by rfl, fun w0 hw0 => ?_⟩) (fun p hp _ => hSw p hp) ?_
          rotate_left
          · simp [Reads] at hw0
            go_simp
            try with_reducible rfl
          try go_simp
          refine takeU (i := 14) (v := ?_) rfl (by kernel_rfl) (fun _ _ _ h => h) (Or.inl ⟨by rfl, fun w0 hw0 => ?_⟩) (fun p hp _ => hSw p hp) ?_
          rotate_left
          · simp [Reads] at hw0
            go_simp
            try with_reducible rfl
          try go_simp
          refine takeU (i := 15) (v := ?_) rfl (by kernel_rfl) (fun _ _ _ h => h) (Or.inl ⟨by rfl, fun w0 hw0 => ?_⟩) (fun p hp _ => hSw p hp) ?_
          rotate_left
          · simp [Reads] at hw0
            go_simp
            try with_reducible rfl
          try go_simp
          refine takeU (i := 16) (v := ?_) rfl (by kernel_rfl) (fun _ _ _ h => h) (Or.inl ⟨by rfl, fun w0 hw0 => ?_⟩) (fun p hp _ => hSw p hp) ?_
          rotate_left
          · simp [Reads] at hw0
            go_simp
            try with_reducible rfl
          try go_simp
          refine takeU (i := 17) (v := ?_) rfl (by kernel_rfl) (fun _ _ _ h => h) (Or.inl ⟨by rfl, fun w0 hw0 => ?_⟩) (fun p hp _ => hSw p hp) ?_
          rotate_left
          · simp [Reads] at hw0
            go_simp
            try with_reducible rfl
          try go_simp
          refine takeU (i := 18) (v := ?_) rfl (by kernel_rfl) (fun _ _ _ h => h) (Or.inl ⟨by rfl, fun w0 hw0 => ?_⟩) (fun p hp _ => hSw p hp) ?_
          rotate_left
          · simp [Reads] at hw0
            go_simp
            try with_reducible rfl
          try go_simp
          refine takeU (i := 19) (v := ?_) rfl (by kernel_rfl) (fun _ _ _ h => h) (Or.inl ⟨by rfl, fun w0 hw0 => ?_⟩) (fun p hp _ => hSw p hp) ?_
          rotate_left
          · simp [Reads] at hw0
            go_simp
            try with_reducible rfl
          try go_simp
          refine oneU (i := 20) rfl (by kernel_rfl) (fun K hK => ?_)
          refine step_built rfl 98 _ rfl _ _ (built_D q.tag q.ix) rfl ?_
          refine hK _ _ (fun p hp _ _ => hSw p hp) ?_
          clear hK K
          try go_simp
          refine oneU (i := 21) rfl (by kernel_rfl) (fun K hK => ?_)
          refine step_slice1 rfl 34 98 _ rfl i z (.agg #[.int .u64 q.tag, .int .u64 q.ix]) 2 Tryd.underlying34 hi hz hsz rfl rfl (by omega) (by omega) ?_
          have hkA := (Keeps.refl [] wr.drew).alloc (.cells #[.int .u64 q.tag, .int .u64 q.ix] 98)
          have hT : Sl (wr.drew.alloc (.cells #[.int .u64 q.tag, .int .u64 q.ix] 98)) 2 (some ⟨wr.drew.heap.size, 0, none⟩) 1 1 [.int .u64 q.tag, .int .u64 q.ix] := Sl.of_blk (Blk.fresh _ _ _) rfl (by decide) (by simp [Value.oneCell'])
          have hHa := hHd.keep0 hkA
          clear hkA hSw e0 e1 hHd
          obtain ⟨e0, e1⟩ := hHa.Q.two hrs1
          have hSw := rdsQ hHa.R.B hrs1 e0 e1
          refine hK _ _ (fun p hp _ _ => hSw p hp) ?_
          clear hK K
          change wpAnyU _ _ _ _ _ _ _ _ (World.alloc _ (Obj.cells #[.int .u64 q.tag, .int .u64 q.ix] 98))
          try go_simp
          have hdl : r1.dn.2.1 ≤ 100000 := by
            have := hHa.D.1
            rw [dns_length, List.length_take] at this
            omega
          refine oneU (i := 22) rfl (by kernel_rfl) (fun K hK => ?_)
          refine step_append_by rfl _ _ 34 34 rfl w0.heap.size 98 i z 2 16 Tryd.underlying34 hi hz hsz hby hzc r1.dn.1 r1.dn.2.1 r1.dn.2.2 (dns (rl.take k)) rfl hHa.D _ rfl 1 _ (hT.src Tryd.underlying34) (by unfold maxLen; omega) (by omega) hHa.R.size ?_
          intro a2 c2 w5 hO5 hk5 hb5
          have hR5 := hHa.R.keep hk5 (fun x hx => (own_lt hHa.D x hx).1)
          have hM5 := own_keep hHa.O hk5 (fun x hx => own_ne2 hHa.O hHa.D (by decide) x hx)
          have hQ5 := hHa.Q.keep hk5 (fun x hx => .inr (own_lt hHa.D x hx).1)
          have hbX := hHa.bX
          have hpX := hHa.pX
          have hK5 := hHa.K.step hk5 (fun x hx => .inr (own_lt hHa.D x hx).1)
          clear hT hHa hk5 hb5 hSw e0 e1
          obtain ⟨e0, e1⟩ := hQ5.two hrs1
          have hSw := rdsQ hR5.B hrs1 e0 e1
          refine hK _ _ (fun p hp _ _ => hSw p hp) ?_
          clear hK K
          try go_simp
          refine takeU (i := 23) (v := ?_) rfl (by kernel_rfl) (fun _ _ _ h => h) (Or.inl ⟨by rfl, fun w0 hw0 => ?_⟩) (fun p hp _ => hSw p hp) ?_
          rotate_left
          · simp [Reads] at hw0
            go_simp
            try with_reducible rfl
          try go_simp
          refine takeU (i := 24) (v := ?_) rfl (by kernel_rfl) (fun _ _ _ h => h) (Or.inl ⟨by rfl, fun w0 hw0 => ?_⟩) (fun p hp _ => hSw p hp) ?_
          rotate_left
          · simp [Reads] at hw0
            go_simp
            try with_reducible rfl
          try go_simp
          refine takeU (i := 25) (v := ?_) rfl (by kernel_rfl) (fun _ _ _ h => h) (Or.inl ⟨by rfl, fun w0 hw0 => ?_⟩) (fun p hp _ => hSw p hp) ?_
          rotate_left
          · simp [Reads] at hw0
            go_simp
            try with_reducible rfl
          try go_simp
          have hc := hR5.B.cell
          simp only [Rf.cells] at hc
          have hlb := hR5.B.lt
          have hf := hR5.B.free
          refine oneU (i := 26) rfl (by kernel_rfl) (fun K hK => ?_)
          go_simp
          have hB6 := (hR5.B.put 19 (.slice a2 (r1.dn.2.1 + 1) c2)).eq (cs' := ({ r1 with dn := (a2, r1.dn.2.1 + 1, c2) } : Rf).cells) (by simp [Rf.cells])
          have hks := (Keeps.refl [b] w5).set (p := ⟨b, 19, none⟩) (by simp) (.slice a2 (r1.dn.2.1 + 1) c2)
          refine hK _ _ (fun p hp h1 _ => by simp only [List.mem_cons, List.not_mem_nil, or_false] at hp; rcases hp with rfl | rfl | rfl | rfl | rfl <;> exact waits_absurd h1 (by kernel_rfl)) ?_
          clear hK K hSw e0 e1 hc hlb hf
          refine doneU (by kernel_rfl) ?_
          have hb0 := hR5.bN
          have hH6 : HS X w0 (w5.setCell ⟨b, 19, none⟩ (.slice a2 (r1.dn.2.1 + 1) c2)) b pb { r1 with dn := (a2, r1.dn.2.1 + 1, c2) } g ps ys (q :: l) (rl.take (k + 1)) :=
            ⟨hR5.turnB hks (fun x hx => .inl (by simpa using hx)) hB6 rfl rfl, own_keep hM5 hks (fun x hx => by have := own_lt hM5 x hx; simp; omega),
              by rw [HQ.out.2.2, dns_append]; exact own_keep hO5 hks (fun x hx => by have := own_lt hO5 x hx; simp; omega), hQ5.keep hks (fun x hx => .inl (by simp at hx; rw [hx]; exact hbX)), hK5.step hks (fun x hx => .inl (by simp at hx; simp [hx])), hbX, hpX⟩
          generalize World.setCell w5 _ _ = w6 at *
          clear hB6 hks hO5 hR5 hM5 hQ5 hK5
          obtain ⟨r2, hr2⟩ : ∃ r2 : Rf, r2 = { r1 with dn := (a2, r1.dn.2.1 + 1, c2) } := ⟨_, rfl⟩
          rw [← hr2] at hH6
          have hrs2 : r2.rs = (some ⟨rb, ro, none⟩, l.length + 1, sc) := by rw [hr2]; exact hrs1
          have HR2 := Lib.hid hr2
          have ht := hH6.Q.tail rfl
          simp only [hrs2] at ht
          have HT := Lib.hid ht
          clear hr2 ht
          have hc := hH6.R.B.cell
          simp only [Rf.cells, hrs2] at hc
          have hl := hH6.R.B.lt
          have hf := hH6.R.B.free
          have fin : ∀ (ta : Option Addr) (tn tc : Nat), QsAt w6 w0.heap.size X (ta, tn, tc) l → ∃ k' d' s', doneN r.n ps (rl.drop k') + k' = K ∧ k' ≤ rl.length ∧ HS X w0 (w6.setCell ⟨b, 14, none⟩ (.slice ta tn tc)) b pb { r with dn := d', rs := s' } g ps ys (rl.drop k') (rl.take k') ∧ (w6.setCell ⟨b, 14, none⟩ (.slice ta tn tc)).cell? ⟨b, 14, none⟩ = some (.slice ta tn tc) := by
            intro ta tn tc hq
            refine ⟨k + 1, r2.dn, (ta, tn, tc), by rw [← HQ.out.2.1]; exact HKK.out, by omega, ?_, ?_⟩
            rotate_left
            · rw [((hH6.R.B.put 14 (.slice ta tn tc)).cell 14)]; simp [Rf.cells]
            have hB7 := (hH6.R.B.put 14 (.slice ta tn tc)).eq (cs' := ({ r2 with rs := (ta, tn, tc) } : Rf).cells) (by simp [Rf.cells])
            have hks := (Keeps.refl [b] w6).set (p := ⟨b, 14, none⟩) (by simp) (.slice ta tn tc)
            have e7 : ({ r with dn := r2.dn, rs := (ta, tn, tc) } : Rf) = { r2 with rs := (ta, tn, tc) } := by rw [HR2.out, HR1.out]
            rw [e7, ← HQ.out.2.1]
            exact ⟨hH6.R.turnB hks (fun x hx => .inl (by simpa using hx)) hB7 rfl rfl, own_keep hH6.O hks (fun x hx => by have := own_lt hH6.O x hx; simp; omega), own_keep hH6.D hks (fun x hx => by have := own_lt hH6.D x hx; simp; omega), hq.keep hks (fun x hx => .inl (by simp at hx; rw [hx]; exact hbX)), hH6.K.step hks (fun x hx => .inl (by simp at hx; simp [hx])), hbX, hpX⟩
          have FIN := Lib.hid fin
          clear fin hH6
          rcases (show sc = 1 ∨ 1 < sc by omega) with rfl | hc2
          · go_wp2_with fail
            obtain ⟨k', d', s', f1, f2, f3, f4⟩ := FIN.out (some ⟨rb, ro, none⟩) l.length 0 (by simpa using HT.out)
            refine ⟨⟨k', d', s', f1, f2, f3⟩, ?_⟩
            rw [f4, HM0.out]
            simp only []
            omega
          · have hne : ¬ (sc = 1) := by omega
            go_wp2_with fail
            obtain ⟨k', d', s', f1, f2, f3, f4⟩ := FIN.out (some ⟨rb, ro + 3, none⟩) l.length (sc - 1) (by simpa [hne, Addr.add_lit] using HT.out)
            refine ⟨⟨k', d', s', f1, f2, f3⟩, ?_⟩
            rw [f4, HM0.out]
            simp only []
            omega
end Go.Proofs.YtdeaelbelcjhcaaDoor
