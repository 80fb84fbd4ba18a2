/- NetPlays: the switch. -/
import Derived.Test.YtllcidpmdmacjaaDoorNetZ
import Derived.Deep.DeepCutAuto
import Derived.Deep.CutBlock
import Derived.Deep.CutRange

namespace Go.Proofs.YtllcidpmdmacjaaDoor
open Go.RowKit Go.Lib

/-- the block of that number -/
def atBlock (n : Nat) : Code → Option Code
  | .block m c => if m = n then some (.block m c) else atBlock n c
  | .loop c => atBlock n c
  | .seq a b => match atBlock n a with
    | some c => some c
    | none => atBlock n b
  | .scope c => atBlock n c
  | .cond _ a b => match atBlock n a with
    | some c => some c
    | none => atBlock n b
  | _ => none
/-- the law's switch -/
noncomputable def netSw : Code := (Tryd.f3.body.bind (atBlock 2)).getD .skip
theorem mls_one1 {C : Int → Nat → Bool → Array Value} (hC : LC C) (tn : Int) (sq : Nat) : (C tn sq false).toList = mls [(tn, sq)] := by rw [hC.ml]; simp [mls]

theorem LC.msg5 {C : Int → Nat → Bool → Array Value} (hC : LC C) (wh ix tn : Int) (sq : Nat) (bad : Bool) (w : World) : Calls Tryd.prog 7 #[.agg #[.int .i64 wh, .int .i64 ix, .int .i64 tn, .int .u64 (sq : Nat), .bool bad]] w fun e w' => e = .returned (.agg (C tn sq bad)) ∧ Keeps [] w w' := hC.msg ⟨wh, ix, tn, sq, bad⟩ w
end Go.Proofs.YtllcidpmdmacjaaDoor
