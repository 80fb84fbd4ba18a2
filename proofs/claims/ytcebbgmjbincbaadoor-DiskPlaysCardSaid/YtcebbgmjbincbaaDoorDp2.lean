/- DiskPlays: what the arms share. -/
import Derived.Test.YtcebbgmjbincbaaDoorDp1
import Derived.Deep.DeepCutAuto
import Derived.Deep.CutBlock
import Derived.Deep.CutRange

namespace Go.Proofs.YtcebbgmjbincbaaDoor
open Go.RowKit Go.Lib
/-- behind the switch: the error and the class, both disks, the step's block -/
def DpRel (w : World) (db rb sb i : Nat) (stb : Array Value) (v9 v10 : Value) (w' : World) : Prop :=
  ∃ (r : DRes) (d' : DSt) (L' M' : List Nat), v10 = .int .i64 r.cls ∧ DE w' v9 r ∧ DpS w w' db rb L' M' d' (i + 1) ∧ Blk w' sb 48 stb ∧ sb ∉ L' ∧ sb ∉ M'
/-- the block of that number -/
def atBlock (n : Nat) : Code → Option Code
  | .block m c => if m = n then some (.block m c) else atBlock n c
  | .loop c => atBlock n c
  | .seq a b => match atBlock n a with
    | some c => some c
    | none => atBlock n b
  | .scope c => atBlock n c
  | .cond _ a b => match atBlock n a with
    | some c => some c
    | none => atBlock n b
  | _ => none
/-- the law's switch -/
noncomputable def dpSw : Code := (Tryd.f5.body.bind (atBlock 2)).getD .skip
end Go.Proofs.YtcebbgmjbincbaaDoor
