/- Plain words of rules and rings. -/
import Derived.Test.YtfdgoddcpfgfjaaPl
namespace Go.Proofs.Ytfdgoddcpfgfjaa
open Go.RowKit
set_option linter.unusedVariables false

/-- what a rule tells, or -1 -/
def rbI (rule l o r : Int) : Int := if (inB rule 0 255 && inB l 0 1 && inB o 0 1 && inB r 0 1) = true then bitI rule (4 * l + 2 * o + r).toNat else -1
theorem rb_ok {rule l o r : Int} (h : inB rule 0 255 = true) (hl : inB l 0 1 = true) (ho : inB o 0 1 = true) (hr : inB r 0 1 = true) : rbI rule l o r = bitI rule (4 * l + 2 * o + r).toNat := by simp [rbI, h, hl, ho, hr]
theorem two {n : Int} (h : inB n 0 1 = true) : n = 0 ∨ n = 1 := by have := inB_iff.1 h; omega
/-- a ring is valid -/
def rvB (zs : List Int) : Bool := decide (3 ≤ zs.length ∧ zs.length ≤ 12) && zs.all fun n => inB n 0 1
theorem rv_iff {zs : List Int} : rvB zs = true ↔ (3 ≤ zs.length ∧ zs.length ≤ 12) ∧ ∀ n ∈ zs, inB n 0 1 = true := by simp [rvB]
theorem rv_at {zs : List Int} (h : rvB zs = true) {k : Nat} {x : Int} (hx : zs[k]? = some x) : x = 0 ∨ x = 1 := two ((rv_iff.1 h).2 x (List.mem_of_getElem? hx))
/-- a rule in the other direction, or -1 -/
def rfI (rule : Int) : Int := if inB rule 0 255 = true then
  bitI rule 0 + bitI rule 4 * 2 + bitI rule 2 * 4 + bitI rule 6 * 8 + bitI rule 1 * 16 + bitI rule 5 * 32 + bitI rule 3 * 64 + bitI rule 7 * 128 else -1
/-- at two words the rule tells sums for sums -/
def lin1 (rule : Int) (a b : Nat) : Bool := bitI rule (a ^^^ b) == (bitI rule a + bitI rule b) % 2
def linB (rule : Int) : Bool := inB rule 0 255 && (List.range 8).all fun a => (List.range 8).all fun b => lin1 rule a b
theorem lin_iff {rule : Int} : linB rule = true ↔ inB rule 0 255 = true ∧ ∀ a, a < 8 → ∀ b, b < 8 → lin1 rule a b = true := by simp [linB]
theorem r256 {rule : Int} (h : inB rule 0 255 = true) : 0 ≤ rule ∧ rule < 256 := by have := inB_iff.1 h; omega
end Go.Proofs.Ytfdgoddcpfgfjaa
