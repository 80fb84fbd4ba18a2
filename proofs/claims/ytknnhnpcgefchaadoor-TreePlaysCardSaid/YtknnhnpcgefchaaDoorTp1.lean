/- TreePlays: what the arms share. -/
import Derived.Test.YtknnhnpcgefchaaDoorTrA
import Derived.Deep.DeepCutAuto
import Derived.Deep.CutBlock
import Derived.Deep.CutRange

namespace Go.Proofs.YtknnhnpcgefchaaDoor
open Go.RowKit Go.Lib
/-- behind the switch: the law's state -/
def TpRel (w : World) (t i : Nat) (v4 v5 v6 v7 v8 v9 : Value) (w' : World) : Prop :=
  ∃ (l lo : List KV) (a4 : Option Addr) (c4 : Nat) (a5 : Option Addr) (c5 cb : Nat) (k : Bs) (ab : Bool) (tc : Nat), v4 = .slice a4 l.length c4 ∧ v5 = .slice a5 lo.length c5 ∧ v6 = .pointer (some ⟨cb, 0, none⟩) ∧ v7 = .string ⟨k.toArray⟩ ∧ v8 = .bool ab ∧ v9 = .pointer (some ⟨tc, 0, none⟩) ∧ l.length ≤ i + 1 ∧ lo.length ≤ i + 1 ∧ w.heap.size ≤ cb ∧ PSt w' t cb tc l lo k ab a4 c4 a5 c5 ∧ Keeps [] w w'
/-- the block of that number -/
def atBlock (n : Nat) : Code → Option Code
  | .block m c => if m = n then some (.block m c) else atBlock n c
  | .loop c => atBlock n c
  | .seq a b => match atBlock n a with
    | some c => some c
    | none => atBlock n b
  | .scope c => atBlock n c
  | .cond _ a b => match atBlock n a with
    | some c => some c
    | none => atBlock n b
  | _ => none
/-- the law's switch -/
noncomputable def tpSw : Code := (Tryd.f3.body.bind (atBlock 2)).getD .skip
end Go.Proofs.YtknnhnpcgefchaaDoor
