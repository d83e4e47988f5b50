/- The walk of the exact law on linear rules. -/
import Derived.Test.YtfdgoddcpfgfjaaRing3
namespace Go.Proofs.Ytfdgoddcpfgfjaa
open Go.RowKit
set_option linter.unusedVariables false

set_option maxHeartbeats 2000000 in
theorem walkFnExactRuleLinear (w : World) (a0 : Int) (_w0 : (Lit.int .i64 a0).wf = true) :
    Calls Try.prog 4 #[.int .i64 a0] w fun e w' => e = .returned (.bool true) ∧ Below w.heap.size w w' := by
  clear _w0
  go_enter Try.func4, Try.ntmps4
  have hBt : Below w.heap.size w w := Below.refl _ _
  go_wp2_with fail
  refine (ruleLinearS a0 _ ).mono ?_
  rintro e w1 ⟨rfl, hB⟩
  have hs1 : w.heap.size ≤ w1.heap.size := hB.size
  replace hBt := hBt.trans (hB.mono hBt.size)
  clear hB
  go_wp2_with fail
  refine (ruleLinear a0 _ ).mono ?_
  rintro e w2 ⟨rfl, hB⟩
  have hs2 : w1.heap.size ≤ w2.heap.size := hB.size
  replace hBt := hBt.trans (hB.mono hBt.size)
  clear hB
  go_wp2
  go_ret
  exact ⟨rfl, hBt⟩
end Go.Proofs.Ytfdgoddcpfgfjaa
