/-
  No cell of these rows narrows 'for every input' (looked for: loops, veiled, ifaces, maps, wideKeys, modest, calm, conditions, laid).
  DERIVED. THE GIVEN ROWS OF THIS SEAT. 12 by the template 'for every input the law returns true; each argument reads behind the call as it read before'; 0 by the template 'total and deterministic' (their statements: YtfdgoddcpfgfjaaTotals.lean).
  GIVEN WITH THE SEED: the statements are not yours to turn. If you find one false, say at which input.
  Laid BY PROGRAM, IN A SANDBOX (cutbox-rows.mjs): the forced cells as the released guide's own fill.sh prints them over the translation 27460ac978339b14… (all of the seat's roots in one cut). By AI agents, Wed Nov 11 2026. No macro, syntax, notation, axiom, sorry.
-/
import Derived.Test.YtfdgoddcpfgfjaaChecked
import GoSem.Claim
import GoSem.ClaimJoined
import GoSem.ClaimMapViews
import Derived.JoinedTies
import Derived.KernelRfl
namespace Go.Proofs.Ytfdgoddcpfgfjaa
/- THE CELL 'sum', in the pinned program and in every row, IS THE sha256 OF THE DUMP (.gsa) THAT YtfdgoddcpfgfjaaProg.lean LOADS. Nothing in Lean hashes anything: it is a label: what it is worth is what the hold of that sum in a sandbox is worth. -/
noncomputable def Try.pinned : Pinned := { name := "ytfdgoddcpfgfjaa", sum := "27460ac978339b14c2c8fe8cd6b8a8339f2bddccc19303cb3b2c559b554a2a69", checked := Try.checked }
namespace Rows
def none {H : Type} : Left H := { results := [], args := [] }

/-- 'laws.FnExactRuleBit': WHATEVER THE INPUT: true; the input reads as it did. -/
def fnExactRuleBitSpec : ChangeSpec := { name := "fnExactRuleBit", fn := fun _ => fun
  | [d1, d2, d3, d4] => { results := [.lit (.bool true)], args := [d1, d2, d3, d4] }
  | _ => none }
def fnExactRuleBitRow : OpenClaim := { program := "ytfdgoddcpfgfjaa", sum := "27460ac978339b14c2c8fe8cd6b8a8339f2bddccc19303cb3b2c559b554a2a69", func := "loop.example/reversiblecircuits/laws.FnExactRuleBit", spec := "fnExactRuleBit", apart := false }
def FnExactRuleBitSaid : Prop := fnExactRuleBitRow.holds Try.pinned (OpenSpec.ofChange fnExactRuleBitSpec)

/-- ITS FALSE NEIGHBOUR: 'it returns false'. Refute it at one input. -/
def fnExactRuleBitWrong : ChangeSpec := { name := "fnExactRuleBit", fn := fun _ => fun
  | [d1, d2, d3, d4] => { results := [.lit (.bool false)], args := [d1, d2, d3, d4] }
  | _ => none }
def FnExactRuleBitWrongFalsely : Prop := fnExactRuleBitRow.holds Try.pinned (OpenSpec.ofChange fnExactRuleBitWrong)

/-- 'laws.FnExactRuleLinear': WHATEVER THE INPUT: true; the input reads as it did. -/
def fnExactRuleLinearSpec : ChangeSpec := { name := "fnExactRuleLinear", fn := fun _ => fun
  | [d] => { results := [.lit (.bool true)], args := [d] }
  | _ => none }
def fnExactRuleLinearRow : OpenClaim := { program := "ytfdgoddcpfgfjaa", sum := "27460ac978339b14c2c8fe8cd6b8a8339f2bddccc19303cb3b2c559b554a2a69", func := "loop.example/reversiblecircuits/laws.FnExactRuleLinear", spec := "fnExactRuleLinear", apart := false }
def FnExactRuleLinearSaid : Prop := fnExactRuleLinearRow.holds Try.pinned (OpenSpec.ofChange fnExactRuleLinearSpec)

/-- ITS FALSE NEIGHBOUR: 'it returns false'. Refute it at one input. -/
def fnExactRuleLinearWrong : ChangeSpec := { name := "fnExactRuleLinear", fn := fun _ => fun
  | [d] => { results := [.lit (.bool false)], args := [d] }
  | _ => none }
def FnExactRuleLinearWrongFalsely : Prop := fnExactRuleLinearRow.holds Try.pinned (OpenSpec.ofChange fnExactRuleLinearWrong)

/-- 'laws.FnExactRuleFlip': WHATEVER THE INPUT: true; the input reads as it did. -/
def fnExactRuleFlipSpec : ChangeSpec := { name := "fnExactRuleFlip", fn := fun _ => fun
  | [d] => { results := [.lit (.bool true)], args := [d] }
  | _ => none }
def fnExactRuleFlipRow : OpenClaim := { program := "ytfdgoddcpfgfjaa", sum := "27460ac978339b14c2c8fe8cd6b8a8339f2bddccc19303cb3b2c559b554a2a69", func := "loop.example/reversiblecircuits/laws.FnExactRuleFlip", spec := "fnExactRuleFlip", apart := false }
def FnExactRuleFlipSaid : Prop := fnExactRuleFlipRow.holds Try.pinned (OpenSpec.ofChange fnExactRuleFlipSpec)

/-- ITS FALSE NEIGHBOUR: 'it returns false'. Refute it at one input. -/
def fnExactRuleFlipWrong : ChangeSpec := { name := "fnExactRuleFlip", fn := fun _ => fun
  | [d] => { results := [.lit (.bool false)], args := [d] }
  | _ => none }
def FnExactRuleFlipWrongFalsely : Prop := fnExactRuleFlipRow.holds Try.pinned (OpenSpec.ofChange fnExactRuleFlipWrong)

/-- 'laws.FnExactRingValid': WHATEVER THE INPUT: true; the input reads as it did. -/
def fnExactRingValidSpec : ChangeSpec := { name := "fnExactRingValid", fn := fun _ => fun
  | [d] => { results := [.lit (.bool true)], args := [d] }
  | _ => none }
def fnExactRingValidRow : OpenClaim := { program := "ytfdgoddcpfgfjaa", sum := "27460ac978339b14c2c8fe8cd6b8a8339f2bddccc19303cb3b2c559b554a2a69", func := "loop.example/reversiblecircuits/laws.FnExactRingValid", spec := "fnExactRingValid", unfollowed := true, recurses := true, apart := false }
def FnExactRingValidSaid : Prop := fnExactRingValidRow.holds Try.pinned (OpenSpec.ofChange fnExactRingValidSpec)

/-- ITS FALSE NEIGHBOUR: 'it returns false'. Refute it at one input. -/
def fnExactRingValidWrong : ChangeSpec := { name := "fnExactRingValid", fn := fun _ => fun
  | [d] => { results := [.lit (.bool false)], args := [d] }
  | _ => none }
def FnExactRingValidWrongFalsely : Prop := fnExactRingValidRow.holds Try.pinned (OpenSpec.ofChange fnExactRingValidWrong)

/-- 'laws.FnRuleBit': WHATEVER THE INPUT: true; the input reads as it did. -/
def fnRuleBitSpec : ChangeSpec := { name := "fnRuleBit", fn := fun _ => fun
  | [d] => { results := [.lit (.bool true)], args := [d] }
  | _ => none }
def fnRuleBitRow : OpenClaim := { program := "ytfdgoddcpfgfjaa", sum := "27460ac978339b14c2c8fe8cd6b8a8339f2bddccc19303cb3b2c559b554a2a69", func := "loop.example/reversiblecircuits/laws.FnRuleBit", spec := "fnRuleBit", apart := false }
def FnRuleBitSaid : Prop := fnRuleBitRow.holds Try.pinned (OpenSpec.ofChange fnRuleBitSpec)

/-- ITS FALSE NEIGHBOUR: 'it returns false'. Refute it at one input. -/
def fnRuleBitWrong : ChangeSpec := { name := "fnRuleBit", fn := fun _ => fun
  | [d] => { results := [.lit (.bool false)], args := [d] }
  | _ => none }
def FnRuleBitWrongFalsely : Prop := fnRuleBitRow.holds Try.pinned (OpenSpec.ofChange fnRuleBitWrong)

/-- 'laws.FnRingValid': WHATEVER THE INPUT: true; the input reads as it did. -/
def fnRingValidSpec : ChangeSpec := { name := "fnRingValid", fn := fun _ => fun
  | [d] => { results := [.lit (.bool true)], args := [d] }
  | _ => none }
def fnRingValidRow : OpenClaim := { program := "ytfdgoddcpfgfjaa", sum := "27460ac978339b14c2c8fe8cd6b8a8339f2bddccc19303cb3b2c559b554a2a69", func := "loop.example/reversiblecircuits/laws.FnRingValid", spec := "fnRingValid", unfollowed := true, recurses := true, apart := false }
def FnRingValidSaid : Prop := fnRingValidRow.holds Try.pinned (OpenSpec.ofChange fnRingValidSpec)

/-- ITS FALSE NEIGHBOUR: 'it returns false'. Refute it at one input. -/
def fnRingValidWrong : ChangeSpec := { name := "fnRingValid", fn := fun _ => fun
  | [d] => { results := [.lit (.bool false)], args := [d] }
  | _ => none }
def FnRingValidWrongFalsely : Prop := fnRingValidRow.holds Try.pinned (OpenSpec.ofChange fnRingValidWrong)

/-- 'laws.FnExactRingShift': WHATEVER THE INPUT: true; the input reads as it did. -/
def fnExactRingShiftSpec : ChangeSpec := { name := "fnExactRingShift", fn := fun _ => fun
  | [d1, d2] => { results := [.lit (.bool true)], args := [d1, d2] }
  | _ => none }
def fnExactRingShiftRow : OpenClaim := { program := "ytfdgoddcpfgfjaa", sum := "27460ac978339b14c2c8fe8cd6b8a8339f2bddccc19303cb3b2c559b554a2a69", func := "loop.example/reversiblecircuits/laws.FnExactRingShift", spec := "fnExactRingShift", unfollowed := true, recurses := true, apart := false }
def FnExactRingShiftSaid : Prop := fnExactRingShiftRow.holds Try.pinned (OpenSpec.ofChange fnExactRingShiftSpec)

/-- ITS FALSE NEIGHBOUR: 'it returns false'. Refute it at one input. -/
def fnExactRingShiftWrong : ChangeSpec := { name := "fnExactRingShift", fn := fun _ => fun
  | [d1, d2] => { results := [.lit (.bool false)], args := [d1, d2] }
  | _ => none }
def FnExactRingShiftWrongFalsely : Prop := fnExactRingShiftRow.holds Try.pinned (OpenSpec.ofChange fnExactRingShiftWrong)

/-- 'laws.FnExactRingAdd': WHATEVER THE INPUT: true; the input reads as it did. -/
def fnExactRingAddSpec : ChangeSpec := { name := "fnExactRingAdd", fn := fun _ => fun
  | [d1, d2] => { results := [.lit (.bool true)], args := [d1, d2] }
  | _ => none }
def fnExactRingAddRow : OpenClaim := { program := "ytfdgoddcpfgfjaa", sum := "27460ac978339b14c2c8fe8cd6b8a8339f2bddccc19303cb3b2c559b554a2a69", func := "loop.example/reversiblecircuits/laws.FnExactRingAdd", spec := "fnExactRingAdd", unfollowed := true, recurses := true, apart := false }
def FnExactRingAddSaid : Prop := fnExactRingAddRow.holds Try.pinned (OpenSpec.ofChange fnExactRingAddSpec)

/-- ITS FALSE NEIGHBOUR: 'it returns false'. Refute it at one input. -/
def fnExactRingAddWrong : ChangeSpec := { name := "fnExactRingAdd", fn := fun _ => fun
  | [d1, d2] => { results := [.lit (.bool false)], args := [d1, d2] }
  | _ => none }
def FnExactRingAddWrongFalsely : Prop := fnExactRingAddRow.holds Try.pinned (OpenSpec.ofChange fnExactRingAddWrong)

/-- 'laws.FnRuleFlip': WHATEVER THE INPUT: true; the input reads as it did. -/
def fnRuleFlipSpec : ChangeSpec := { name := "fnRuleFlip", fn := fun _ => fun
  | [d] => { results := [.lit (.bool true)], args := [d] }
  | _ => none }
def fnRuleFlipRow : OpenClaim := { program := "ytfdgoddcpfgfjaa", sum := "27460ac978339b14c2c8fe8cd6b8a8339f2bddccc19303cb3b2c559b554a2a69", func := "loop.example/reversiblecircuits/laws.FnRuleFlip", spec := "fnRuleFlip", apart := false }
def FnRuleFlipSaid : Prop := fnRuleFlipRow.holds Try.pinned (OpenSpec.ofChange fnRuleFlipSpec)

/-- ITS FALSE NEIGHBOUR: 'it returns false'. Refute it at one input. -/
def fnRuleFlipWrong : ChangeSpec := { name := "fnRuleFlip", fn := fun _ => fun
  | [d] => { results := [.lit (.bool false)], args := [d] }
  | _ => none }
def FnRuleFlipWrongFalsely : Prop := fnRuleFlipRow.holds Try.pinned (OpenSpec.ofChange fnRuleFlipWrong)

/-- 'laws.FnExactRingFlip': WHATEVER THE INPUT: true; the input reads as it did. -/
def fnExactRingFlipSpec : ChangeSpec := { name := "fnExactRingFlip", fn := fun _ => fun
  | [d] => { results := [.lit (.bool true)], args := [d] }
  | _ => none }
def fnExactRingFlipRow : OpenClaim := { program := "ytfdgoddcpfgfjaa", sum := "27460ac978339b14c2c8fe8cd6b8a8339f2bddccc19303cb3b2c559b554a2a69", func := "loop.example/reversiblecircuits/laws.FnExactRingFlip", spec := "fnExactRingFlip", unfollowed := true, recurses := true, apart := false }
def FnExactRingFlipSaid : Prop := fnExactRingFlipRow.holds Try.pinned (OpenSpec.ofChange fnExactRingFlipSpec)

/-- ITS FALSE NEIGHBOUR: 'it returns false'. Refute it at one input. -/
def fnExactRingFlipWrong : ChangeSpec := { name := "fnExactRingFlip", fn := fun _ => fun
  | [d] => { results := [.lit (.bool false)], args := [d] }
  | _ => none }
def FnExactRingFlipWrongFalsely : Prop := fnExactRingFlipRow.holds Try.pinned (OpenSpec.ofChange fnExactRingFlipWrong)

/-- 'laws.FnExactReadRing': WHATEVER THE INPUT: true; the input reads as it did. -/
def fnExactReadRingSpec : ChangeSpec := { name := "fnExactReadRing", fn := fun _ => fun
  | [d] => { results := [.lit (.bool true)], args := [d] }
  | _ => none }
def fnExactReadRingRow : OpenClaim := { program := "ytfdgoddcpfgfjaa", sum := "27460ac978339b14c2c8fe8cd6b8a8339f2bddccc19303cb3b2c559b554a2a69", func := "loop.example/reversiblecircuits/laws.FnExactReadRing", spec := "fnExactReadRing", unfollowed := true, recurses := true, apart := false }
def FnExactReadRingSaid : Prop := fnExactReadRingRow.holds Try.pinned (OpenSpec.ofChange fnExactReadRingSpec)

/-- ITS FALSE NEIGHBOUR: 'it returns false'. Refute it at one input. -/
def fnExactReadRingWrong : ChangeSpec := { name := "fnExactReadRing", fn := fun _ => fun
  | [d] => { results := [.lit (.bool false)], args := [d] }
  | _ => none }
def FnExactReadRingWrongFalsely : Prop := fnExactReadRingRow.holds Try.pinned (OpenSpec.ofChange fnExactReadRingWrong)

/-- 'laws.FnRingShift': WHATEVER THE INPUT: true; the input reads as it did. -/
def fnRingShiftSpec : ChangeSpec := { name := "fnRingShift", fn := fun _ => fun
  | [d] => { results := [.lit (.bool true)], args := [d] }
  | _ => none }
def fnRingShiftRow : OpenClaim := { program := "ytfdgoddcpfgfjaa", sum := "27460ac978339b14c2c8fe8cd6b8a8339f2bddccc19303cb3b2c559b554a2a69", func := "loop.example/reversiblecircuits/laws.FnRingShift", spec := "fnRingShift", unfollowed := true, recurses := true, apart := false }
def FnRingShiftSaid : Prop := fnRingShiftRow.holds Try.pinned (OpenSpec.ofChange fnRingShiftSpec)

/-- ITS FALSE NEIGHBOUR: 'it returns false'. Refute it at one input. -/
def fnRingShiftWrong : ChangeSpec := { name := "fnRingShift", fn := fun _ => fun
  | [d] => { results := [.lit (.bool false)], args := [d] }
  | _ => none }
def FnRingShiftWrongFalsely : Prop := fnRingShiftRow.holds Try.pinned (OpenSpec.ofChange fnRingShiftWrong)

/- THE SECOND FORM. 'bulk': how many values and letters a reading holds, each counted each time it is reached (what is shared counts as often as it is met; a slice's spare places count too). A statement '..UptoSaid' is the law's where the arguments, and the package variables that the reading takes, are together of bulk at most 1048576: NARROWER than '..Said'. Prove '..Said' where nothing that the law and all that it calls make is longer than what came in: it says more and counts as full. Else prove '..UptoSaid'. A law counts once. -/
mutual
def uptoBulk {H : Type} : DataW H → Nat
  | .lit (.string bytes) => bytes.length + 1
  | .lit _ => 1
  | .nil => 1
  | .ptr d => uptoBulk d + 1
  | .slice elems spare => uptoBulkAll elems + uptoBulkAll spare + 1
  | .agg parts => uptoBulkAll parts + 1
  | .iface _ d => uptoBulk d + 1
  | .map entries => uptoBulkEntries entries + 1
  | .held _ => 1
def uptoBulkAll {H : Type} : List (DataW H) → Nat
  | [] => 0
  | d :: r => uptoBulk d + uptoBulkAll r
def uptoBulkEntries {H : Type} : List (Lit × DataW H) → Nat
  | [] => 0
  | x :: r => uptoBulkEntry x + uptoBulkEntries r
def uptoBulkEntry {H : Type} : Lit × DataW H → Nat
  | (.string bytes, d) => bytes.length + uptoBulk d + 1
  | (_, d) => uptoBulk d + 1
 end
def uptoSmall : (H : Type) → List (DataW H) → Bool := fun _ ds => decide (uptoBulkAll ds ≤ 1048576)
def OpenSpec.upto (s : _root_.Go.ChangeSpec) : _root_.Go.OpenSpec := { _root_.Go.OpenSpec.ofChange s with cond := some uptoSmall }

/-- 'laws.FnExactRuleBit', WHERE WHAT IT READS IS OF BULK AT MOST 1048576: true; the input reads as it did. -/
def fnExactRuleBitUptoRow : OpenClaim := { program := "ytfdgoddcpfgfjaa", sum := "27460ac978339b14c2c8fe8cd6b8a8339f2bddccc19303cb3b2c559b554a2a69", func := "loop.example/reversiblecircuits/laws.FnExactRuleBit", spec := "fnExactRuleBit", apart := false, narrowed := true }
def FnExactRuleBitUptoSaid : Prop := fnExactRuleBitUptoRow.holds Try.pinned (OpenSpec.upto fnExactRuleBitSpec)

/-- 'laws.FnExactRuleLinear', WHERE WHAT IT READS IS OF BULK AT MOST 1048576: true; the input reads as it did. -/
def fnExactRuleLinearUptoRow : OpenClaim := { program := "ytfdgoddcpfgfjaa", sum := "27460ac978339b14c2c8fe8cd6b8a8339f2bddccc19303cb3b2c559b554a2a69", func := "loop.example/reversiblecircuits/laws.FnExactRuleLinear", spec := "fnExactRuleLinear", apart := false, narrowed := true }
def FnExactRuleLinearUptoSaid : Prop := fnExactRuleLinearUptoRow.holds Try.pinned (OpenSpec.upto fnExactRuleLinearSpec)

/-- 'laws.FnExactRuleFlip', WHERE WHAT IT READS IS OF BULK AT MOST 1048576: true; the input reads as it did. -/
def fnExactRuleFlipUptoRow : OpenClaim := { program := "ytfdgoddcpfgfjaa", sum := "27460ac978339b14c2c8fe8cd6b8a8339f2bddccc19303cb3b2c559b554a2a69", func := "loop.example/reversiblecircuits/laws.FnExactRuleFlip", spec := "fnExactRuleFlip", apart := false, narrowed := true }
def FnExactRuleFlipUptoSaid : Prop := fnExactRuleFlipUptoRow.holds Try.pinned (OpenSpec.upto fnExactRuleFlipSpec)

/-- 'laws.FnExactRingValid', WHERE WHAT IT READS IS OF BULK AT MOST 1048576: true; the input reads as it did. -/
def fnExactRingValidUptoRow : OpenClaim := { program := "ytfdgoddcpfgfjaa", sum := "27460ac978339b14c2c8fe8cd6b8a8339f2bddccc19303cb3b2c559b554a2a69", func := "loop.example/reversiblecircuits/laws.FnExactRingValid", spec := "fnExactRingValid", unfollowed := true, recurses := true, apart := false, narrowed := true }
def FnExactRingValidUptoSaid : Prop := fnExactRingValidUptoRow.holds Try.pinned (OpenSpec.upto fnExactRingValidSpec)

/-- 'laws.FnRuleBit', WHERE WHAT IT READS IS OF BULK AT MOST 1048576: true; the input reads as it did. -/
def fnRuleBitUptoRow : OpenClaim := { program := "ytfdgoddcpfgfjaa", sum := "27460ac978339b14c2c8fe8cd6b8a8339f2bddccc19303cb3b2c559b554a2a69", func := "loop.example/reversiblecircuits/laws.FnRuleBit", spec := "fnRuleBit", apart := false, narrowed := true }
def FnRuleBitUptoSaid : Prop := fnRuleBitUptoRow.holds Try.pinned (OpenSpec.upto fnRuleBitSpec)

/-- 'laws.FnRingValid', WHERE WHAT IT READS IS OF BULK AT MOST 1048576: true; the input reads as it did. -/
def fnRingValidUptoRow : OpenClaim := { program := "ytfdgoddcpfgfjaa", sum := "27460ac978339b14c2c8fe8cd6b8a8339f2bddccc19303cb3b2c559b554a2a69", func := "loop.example/reversiblecircuits/laws.FnRingValid", spec := "fnRingValid", unfollowed := true, recurses := true, apart := false, narrowed := true }
def FnRingValidUptoSaid : Prop := fnRingValidUptoRow.holds Try.pinned (OpenSpec.upto fnRingValidSpec)

/-- 'laws.FnExactRingShift', WHERE WHAT IT READS IS OF BULK AT MOST 1048576: true; the input reads as it did. -/
def fnExactRingShiftUptoRow : OpenClaim := { program := "ytfdgoddcpfgfjaa", sum := "27460ac978339b14c2c8fe8cd6b8a8339f2bddccc19303cb3b2c559b554a2a69", func := "loop.example/reversiblecircuits/laws.FnExactRingShift", spec := "fnExactRingShift", unfollowed := true, recurses := true, apart := false, narrowed := true }
def FnExactRingShiftUptoSaid : Prop := fnExactRingShiftUptoRow.holds Try.pinned (OpenSpec.upto fnExactRingShiftSpec)

/-- 'laws.FnExactRingAdd', WHERE WHAT IT READS IS OF BULK AT MOST 1048576: true; the input reads as it did. -/
def fnExactRingAddUptoRow : OpenClaim := { program := "ytfdgoddcpfgfjaa", sum := "27460ac978339b14c2c8fe8cd6b8a8339f2bddccc19303cb3b2c559b554a2a69", func := "loop.example/reversiblecircuits/laws.FnExactRingAdd", spec := "fnExactRingAdd", unfollowed := true, recurses := true, apart := false, narrowed := true }
def FnExactRingAddUptoSaid : Prop := fnExactRingAddUptoRow.holds Try.pinned (OpenSpec.upto fnExactRingAddSpec)

/-- 'laws.FnRuleFlip', WHERE WHAT IT READS IS OF BULK AT MOST 1048576: true; the input reads as it did. -/
def fnRuleFlipUptoRow : OpenClaim := { program := "ytfdgoddcpfgfjaa", sum := "27460ac978339b14c2c8fe8cd6b8a8339f2bddccc19303cb3b2c559b554a2a69", func := "loop.example/reversiblecircuits/laws.FnRuleFlip", spec := "fnRuleFlip", apart := false, narrowed := true }
def FnRuleFlipUptoSaid : Prop := fnRuleFlipUptoRow.holds Try.pinned (OpenSpec.upto fnRuleFlipSpec)

/-- 'laws.FnExactRingFlip', WHERE WHAT IT READS IS OF BULK AT MOST 1048576: true; the input reads as it did. -/
def fnExactRingFlipUptoRow : OpenClaim := { program := "ytfdgoddcpfgfjaa", sum := "27460ac978339b14c2c8fe8cd6b8a8339f2bddccc19303cb3b2c559b554a2a69", func := "loop.example/reversiblecircuits/laws.FnExactRingFlip", spec := "fnExactRingFlip", unfollowed := true, recurses := true, apart := false, narrowed := true }
def FnExactRingFlipUptoSaid : Prop := fnExactRingFlipUptoRow.holds Try.pinned (OpenSpec.upto fnExactRingFlipSpec)

/-- 'laws.FnExactReadRing', WHERE WHAT IT READS IS OF BULK AT MOST 1048576: true; the input reads as it did. -/
def fnExactReadRingUptoRow : OpenClaim := { program := "ytfdgoddcpfgfjaa", sum := "27460ac978339b14c2c8fe8cd6b8a8339f2bddccc19303cb3b2c559b554a2a69", func := "loop.example/reversiblecircuits/laws.FnExactReadRing", spec := "fnExactReadRing", unfollowed := true, recurses := true, apart := false, narrowed := true }
def FnExactReadRingUptoSaid : Prop := fnExactReadRingUptoRow.holds Try.pinned (OpenSpec.upto fnExactReadRingSpec)

/-- 'laws.FnRingShift', WHERE WHAT IT READS IS OF BULK AT MOST 1048576: true; the input reads as it did. -/
def fnRingShiftUptoRow : OpenClaim := { program := "ytfdgoddcpfgfjaa", sum := "27460ac978339b14c2c8fe8cd6b8a8339f2bddccc19303cb3b2c559b554a2a69", func := "loop.example/reversiblecircuits/laws.FnRingShift", spec := "fnRingShift", unfollowed := true, recurses := true, apart := false, narrowed := true }
def FnRingShiftUptoSaid : Prop := fnRingShiftUptoRow.holds Try.pinned (OpenSpec.upto fnRingShiftSpec)

end Rows
end Go.Proofs.Ytfdgoddcpfgfjaa
