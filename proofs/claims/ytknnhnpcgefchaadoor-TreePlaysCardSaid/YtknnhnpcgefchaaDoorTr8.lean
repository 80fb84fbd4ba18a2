/- Generic slices: Replace, all ways. -/
import Derived.Test.YtknnhnpcgefchaaDoorTr8a
import Derived.Test.YtknnhnpcgefchaaDoorTr8b
import Derived.Test.YtknnhnpcgefchaaDoorTr8c
import Derived.Test.YtknnhnpcgefchaaDoorTr8d
import Derived.Test.YtknnhnpcgefchaaDoorTr8e

namespace Go.Proofs.YtknnhnpcgefchaaDoor
open Go.RowKit Go.Lib

/-- Replace of some by others -/
theorem repN (N : Nat) (ao : Option Addr) (n c k j m vb : Nat) (xs : List Value) (vs : Array Value) (w : World) (hO : w.ownsRow N 51 1 (.slice ao n c) n xs) (h1 : ∀ u ∈ xs, u.oneCell' = true) (hkj : k < j) (hj : j ≤ n) (hn : n ≤ 1000000) (hm : 0 < m) (hm2 : m ≤ 1000)
    (hV : Blk w vb 51 vs) (hvs : vs.size = m) (hv1 : ∀ u ∈ vs.toList, u.oneCell' = true) (hvb : ∀ x ∈ blks ao, vb ≠ x) (hN : N ≤ w.heap.size) :
    Calls Tryd.prog 36 #[.slice ao n c, .int .i64 (k : Int), .int .i64 (j : Int), .slice (some ⟨vb, 0, none⟩) m m] w fun e w' => ∃ ao' c', e = .returned (.slice ao' (k + m + (n - j)) c') ∧ w'.ownsRow N 51 1 (.slice ao' (k + m + (n - j)) c') (k + m + (n - j)) (xs.take k ++ vs.toList ++ xs.drop j) ∧
      (∀ ad, ao' = some ad → ad.block ∈ blks ao ∨ w.heap.size ≤ ad.block) ∧ Keeps (blks ao) w w' := by
  by_cases hjn : j = n
  · exact repN_a N ao n c k j m vb xs vs w hO h1 hkj hj hn hm hm2 hV hvs hv1 hvb hN hjn
  by_cases hg : c < k + m + (n - j)
  · exact repN_b N ao n c k j m vb xs vs w hO h1 hkj hj hn hm hm2 hV hvs hv1 hvb hN hjn hg
  by_cases hp : k + m ≤ j
  · by_cases hc : c = k + m + (n - j)
    · exact repN_c N ao n c k j m vb xs vs w hO h1 hkj hj hn hm hm2 hV hvs hv1 hvb hN hjn hg hp hc
    · exact repN_e N ao n c k j m vb xs vs w hO h1 hkj hj hn hm hm2 hV hvs hv1 hvb hN hjn hg hp hc
  · exact repN_d N ao n c k j m vb xs vs w hO h1 hkj hj hn hm hm2 hV hvs hv1 hvb hN hjn hg hp
end Go.Proofs.YtknnhnpcgefchaaDoor
