/- What a slice of steps is in memory. -/
import Derived.Test.YtpkjcdmeabjifaaDoorAns2
namespace Go.Proofs.YtpkjcdmeabjifaaDoor
open Go.RowKit

/-- in world w the slice holds steps -/
def StepsIn (w : World) (la : Option Addr) (ll : Nat) : Prop :=
  ∀ i, i < ll → ∃ (b o : Nat) (wh : Int) (q : ByteArray) (mk mf mt mterm mix mlt : Int) (ment : Option Addr × Nat × Nat) (mcm mrd : Int) (mok : Bool) (moff : Int) (mdat : Option Addr × Nat × Nat) (mdone : Bool) (mcl msq : Int) (msql : ByteArray) (mrs mrc : Int) (mcols mrows : Option Addr × Nat × Nat) (mcnt mridx mh : Int) (right : Bool),
    la = some ⟨b, o, none⟩ ∧ (∀ j v, ([.int .i64 wh, .string q, .int .i64 mk, .int .i64 mf, .int .i64 mt, .int .u64 mterm, .int .u64 mix, .int .u64 mlt, .slice ment.1 ment.2.1 ment.2.2, .int .u64 mcm, .int .u64 mrd, .bool mok, .int .i64 moff, .slice mdat.1 mdat.2.1 mdat.2.2, .bool mdone, .int .u64 mcl, .int .u64 msq, .string msql, .int .u64 mrs, .int .i64 mrc, .slice mcols.1 mcols.2.1 mcols.2.2, .slice mrows.1 mrows.2.1 mrows.2.2, .int .i64 mcnt, .int .u64 mridx, .int .i64 mh, .bool right] : List Value)[j]? = some v → w.cell? ⟨b, o + i * 26 + j, none⟩ = some v) ∧ TextsIn w mcols ∧ RowsIn w mrows ∧ q.size ≤ 9223372036854775807
end Go.Proofs.YtpkjcdmeabjifaaDoor
