/- A struct loaded out of a known block, by an operation with a guard that says yes. -/
import Derived.Test.YtknnhnpcgefchaaDoorLaws
namespace Go.Proofs.YtknnhnpcgefchaaDoor
open Go.RowKit

section
variable {P : Program} {w : World} {ops : Array Oper} {rest : List Oper} {o : Oper} {a : Act} {Q : Exit → Act → World → Prop}

theorem wpList_load_aggG (hw : Region.wanted o (yielded ops a.tmps) = true) (ty : TypeId) (x : Operand) (ho : o.op = .load ty x) (b off n : Nat) (hx : a.eval x = .pointer (some ⟨b, off, none⟩))
    (t : TypeId) (cs : Array Value) (d : TypeDesc) (hB : Blk w b t cs) (hu : P.underlying ty = some d)
    (hd : (match d with | .struct _ | .array _ _ => true | _ => false) = true) (hsz : (P.info? ty).map (·.size) = some n) (hfit : off + n ≤ cs.size)
    (vs : Array Value) (hvs : ((cs.toList.drop off).take n).toArray = vs) (h : wpList P ops Q rest (a.put o.dst (.agg vs)) w) : wpList P ops Q (o :: rest) a w := by
  refine BigFrame.wpList_want hw fun K hK => ?_
  have hr := run_load_part (P := P) b off n t ty cs d hB hu hd hsz hfit
  rw [hvs] at hr
  unfold Oper.wp execOp
  simp only [ho, hx, Instr.loadAt, Instr.sureAddr, Sem.run_bind, Sem.run_pure, Result.andThen_ok, hr, Oper.upon]
  exact hK _ _ h
end
end Go.Proofs.YtknnhnpcgefchaaDoor
