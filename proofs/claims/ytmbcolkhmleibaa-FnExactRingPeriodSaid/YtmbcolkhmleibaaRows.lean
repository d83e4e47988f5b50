/-
  No cell of these rows narrows 'for every input' (looked for: loops, veiled, ifaces, maps, wideKeys, modest, calm, conditions, laid).
  DERIVED. THE GIVEN ROWS OF THIS SEAT. 8 by the template 'for every input the law returns true; each argument reads behind the call as it read before'; 0 by the template 'total and deterministic' (their statements: YtmbcolkhmleibaaTotals.lean).
  GIVEN WITH THE SEED: the statements are not yours to turn. If you find one false, say at which input.
  Laid BY PROGRAM, IN A SANDBOX (cutbox-rows.mjs): the forced cells as the released guide's own fill.sh prints them over the translation 0f438f35f1db4a66… (all of the seat's roots in one cut). By AI agents, Wed Nov 11 2026. No macro, syntax, notation, axiom, sorry.
-/
import Derived.Test.YtmbcolkhmleibaaChecked
import GoSem.Claim
import GoSem.ClaimJoined
import GoSem.ClaimMapViews
import Derived.JoinedTies
import Derived.KernelRfl
namespace Go.Proofs.Ytmbcolkhmleibaa
/- THE CELL 'sum', in the pinned program and in every row, IS THE sha256 OF THE DUMP (.gsa) THAT YtmbcolkhmleibaaProg.lean LOADS. Nothing in Lean hashes anything: it is a label: what it is worth is what the hold of that sum in a sandbox is worth. -/
noncomputable def Try.pinned : Pinned := { name := "ytmbcolkhmleibaa", sum := "0f438f35f1db4a666487801eea13dd7fd0720bf0d7412dfb7be75b8d205638c0", checked := Try.checked }
namespace Rows
def none {H : Type} : Left H := { results := [], args := [] }

/-- 'laws.FnExactRuleRing': WHATEVER THE INPUT: true; the input reads as it did. -/
def fnExactRuleRingSpec : ChangeSpec := { name := "fnExactRuleRing", fn := fun _ => fun
  | [d1, d2] => { results := [.lit (.bool true)], args := [d1, d2] }
  | _ => none }
def fnExactRuleRingRow : OpenClaim := { program := "ytmbcolkhmleibaa", sum := "0f438f35f1db4a666487801eea13dd7fd0720bf0d7412dfb7be75b8d205638c0", func := "loop.example/reversiblecircuits/laws.FnExactRuleRing", spec := "fnExactRuleRing", unfollowed := true, recurses := true, apart := false }
def FnExactRuleRingSaid : Prop := fnExactRuleRingRow.holds Try.pinned (OpenSpec.ofChange fnExactRuleRingSpec)

/-- ITS FALSE NEIGHBOUR: 'it returns false'. Refute it at one input. -/
def fnExactRuleRingWrong : ChangeSpec := { name := "fnExactRuleRing", fn := fun _ => fun
  | [d1, d2] => { results := [.lit (.bool false)], args := [d1, d2] }
  | _ => none }
def FnExactRuleRingWrongFalsely : Prop := fnExactRuleRingRow.holds Try.pinned (OpenSpec.ofChange fnExactRuleRingWrong)

/-- 'laws.FnExactRingNext': WHATEVER THE INPUT: true; the input reads as it did. -/
def fnExactRingNextSpec : ChangeSpec := { name := "fnExactRingNext", fn := fun _ => fun
  | [d1, d2, d3] => { results := [.lit (.bool true)], args := [d1, d2, d3] }
  | _ => none }
def fnExactRingNextRow : OpenClaim := { program := "ytmbcolkhmleibaa", sum := "0f438f35f1db4a666487801eea13dd7fd0720bf0d7412dfb7be75b8d205638c0", func := "loop.example/reversiblecircuits/laws.FnExactRingNext", spec := "fnExactRingNext", unfollowed := true, recurses := true, apart := false }
def FnExactRingNextSaid : Prop := fnExactRingNextRow.holds Try.pinned (OpenSpec.ofChange fnExactRingNextSpec)

/-- ITS FALSE NEIGHBOUR: 'it returns false'. Refute it at one input. -/
def fnExactRingNextWrong : ChangeSpec := { name := "fnExactRingNext", fn := fun _ => fun
  | [d1, d2, d3] => { results := [.lit (.bool false)], args := [d1, d2, d3] }
  | _ => none }
def FnExactRingNextWrongFalsely : Prop := fnExactRingNextRow.holds Try.pinned (OpenSpec.ofChange fnExactRingNextWrong)

/-- 'laws.FnRingFlip': WHATEVER THE INPUT: true; the input reads as it did. -/
def fnRingFlipSpec : ChangeSpec := { name := "fnRingFlip", fn := fun _ => fun
  | [d] => { results := [.lit (.bool true)], args := [d] }
  | _ => none }
def fnRingFlipRow : OpenClaim := { program := "ytmbcolkhmleibaa", sum := "0f438f35f1db4a666487801eea13dd7fd0720bf0d7412dfb7be75b8d205638c0", func := "loop.example/reversiblecircuits/laws.FnRingFlip", spec := "fnRingFlip", unfollowed := true, recurses := true, apart := false }
def FnRingFlipSaid : Prop := fnRingFlipRow.holds Try.pinned (OpenSpec.ofChange fnRingFlipSpec)

/-- ITS FALSE NEIGHBOUR: 'it returns false'. Refute it at one input. -/
def fnRingFlipWrong : ChangeSpec := { name := "fnRingFlip", fn := fun _ => fun
  | [d] => { results := [.lit (.bool false)], args := [d] }
  | _ => none }
def FnRingFlipWrongFalsely : Prop := fnRingFlipRow.holds Try.pinned (OpenSpec.ofChange fnRingFlipWrong)

/-- 'laws.FnRingAdd': WHATEVER THE INPUT: true; the input reads as it did. -/
def fnRingAddSpec : ChangeSpec := { name := "fnRingAdd", fn := fun _ => fun
  | [d] => { results := [.lit (.bool true)], args := [d] }
  | _ => none }
def fnRingAddRow : OpenClaim := { program := "ytmbcolkhmleibaa", sum := "0f438f35f1db4a666487801eea13dd7fd0720bf0d7412dfb7be75b8d205638c0", func := "loop.example/reversiblecircuits/laws.FnRingAdd", spec := "fnRingAdd", unfollowed := true, recurses := true, apart := false }
def FnRingAddSaid : Prop := fnRingAddRow.holds Try.pinned (OpenSpec.ofChange fnRingAddSpec)

/-- ITS FALSE NEIGHBOUR: 'it returns false'. Refute it at one input. -/
def fnRingAddWrong : ChangeSpec := { name := "fnRingAdd", fn := fun _ => fun
  | [d] => { results := [.lit (.bool false)], args := [d] }
  | _ => none }
def FnRingAddWrongFalsely : Prop := fnRingAddRow.holds Try.pinned (OpenSpec.ofChange fnRingAddWrong)

/-- 'laws.FnExactRingBefore': WHATEVER THE INPUT: true; the input reads as it did. -/
def fnExactRingBeforeSpec : ChangeSpec := { name := "fnExactRingBefore", fn := fun _ => fun
  | [d1, d2, d3] => { results := [.lit (.bool true)], args := [d1, d2, d3] }
  | _ => none }
def fnExactRingBeforeRow : OpenClaim := { program := "ytmbcolkhmleibaa", sum := "0f438f35f1db4a666487801eea13dd7fd0720bf0d7412dfb7be75b8d205638c0", func := "loop.example/reversiblecircuits/laws.FnExactRingBefore", spec := "fnExactRingBefore", unfollowed := true, recurses := true, apart := false }
def FnExactRingBeforeSaid : Prop := fnExactRingBeforeRow.holds Try.pinned (OpenSpec.ofChange fnExactRingBeforeSpec)

/-- ITS FALSE NEIGHBOUR: 'it returns false'. Refute it at one input. -/
def fnExactRingBeforeWrong : ChangeSpec := { name := "fnExactRingBefore", fn := fun _ => fun
  | [d1, d2, d3] => { results := [.lit (.bool false)], args := [d1, d2, d3] }
  | _ => none }
def FnExactRingBeforeWrongFalsely : Prop := fnExactRingBeforeRow.holds Try.pinned (OpenSpec.ofChange fnExactRingBeforeWrong)

/-- 'laws.FnRingBefore': WHATEVER THE INPUT: true; the input reads as it did. -/
def fnRingBeforeSpec : ChangeSpec := { name := "fnRingBefore", fn := fun _ => fun
  | [d] => { results := [.lit (.bool true)], args := [d] }
  | _ => none }
def fnRingBeforeRow : OpenClaim := { program := "ytmbcolkhmleibaa", sum := "0f438f35f1db4a666487801eea13dd7fd0720bf0d7412dfb7be75b8d205638c0", func := "loop.example/reversiblecircuits/laws.FnRingBefore", spec := "fnRingBefore", unfollowed := true, recurses := true, apart := false }
def FnRingBeforeSaid : Prop := fnRingBeforeRow.holds Try.pinned (OpenSpec.ofChange fnRingBeforeSpec)

/-- ITS FALSE NEIGHBOUR: 'it returns false'. Refute it at one input. -/
def fnRingBeforeWrong : ChangeSpec := { name := "fnRingBefore", fn := fun _ => fun
  | [d] => { results := [.lit (.bool false)], args := [d] }
  | _ => none }
def FnRingBeforeWrongFalsely : Prop := fnRingBeforeRow.holds Try.pinned (OpenSpec.ofChange fnRingBeforeWrong)

/-- 'laws.FnRingNext': WHATEVER THE INPUT: true; the input reads as it did. -/
def fnRingNextSpec : ChangeSpec := { name := "fnRingNext", fn := fun _ => fun
  | [d] => { results := [.lit (.bool true)], args := [d] }
  | _ => none }
def fnRingNextRow : OpenClaim := { program := "ytmbcolkhmleibaa", sum := "0f438f35f1db4a666487801eea13dd7fd0720bf0d7412dfb7be75b8d205638c0", func := "loop.example/reversiblecircuits/laws.FnRingNext", spec := "fnRingNext", unfollowed := true, recurses := true, apart := false }
def FnRingNextSaid : Prop := fnRingNextRow.holds Try.pinned (OpenSpec.ofChange fnRingNextSpec)

/-- ITS FALSE NEIGHBOUR: 'it returns false'. Refute it at one input. -/
def fnRingNextWrong : ChangeSpec := { name := "fnRingNext", fn := fun _ => fun
  | [d] => { results := [.lit (.bool false)], args := [d] }
  | _ => none }
def FnRingNextWrongFalsely : Prop := fnRingNextRow.holds Try.pinned (OpenSpec.ofChange fnRingNextWrong)

/-- 'laws.FnExactRingPeriod': WHATEVER THE INPUT: true; the input reads as it did. -/
def fnExactRingPeriodSpec : ChangeSpec := { name := "fnExactRingPeriod", fn := fun _ => fun
  | [d1, d2, d3] => { results := [.lit (.bool true)], args := [d1, d2, d3] }
  | _ => none }
def fnExactRingPeriodRow : OpenClaim := { program := "ytmbcolkhmleibaa", sum := "0f438f35f1db4a666487801eea13dd7fd0720bf0d7412dfb7be75b8d205638c0", func := "loop.example/reversiblecircuits/laws.FnExactRingPeriod", spec := "fnExactRingPeriod", unfollowed := true, recurses := true, apart := false }
def FnExactRingPeriodSaid : Prop := fnExactRingPeriodRow.holds Try.pinned (OpenSpec.ofChange fnExactRingPeriodSpec)

/-- ITS FALSE NEIGHBOUR: 'it returns false'. Refute it at one input. -/
def fnExactRingPeriodWrong : ChangeSpec := { name := "fnExactRingPeriod", fn := fun _ => fun
  | [d1, d2, d3] => { results := [.lit (.bool false)], args := [d1, d2, d3] }
  | _ => none }
def FnExactRingPeriodWrongFalsely : Prop := fnExactRingPeriodRow.holds Try.pinned (OpenSpec.ofChange fnExactRingPeriodWrong)

/- THE SECOND FORM. 'bulk': how many values and letters a reading holds, each counted each time it is reached (what is shared counts as often as it is met; a slice's spare places count too). A statement '..UptoSaid' is the law's where the arguments, and the package variables that the reading takes, are together of bulk at most 1048576: NARROWER than '..Said'. Prove '..Said' where nothing that the law and all that it calls make is longer than what came in: it says more and counts as full. Else prove '..UptoSaid'. A law counts once. -/
mutual
def uptoBulk {H : Type} : DataW H → Nat
  | .lit (.string bytes) => bytes.length + 1
  | .lit _ => 1
  | .nil => 1
  | .ptr d => uptoBulk d + 1
  | .slice elems spare => uptoBulkAll elems + uptoBulkAll spare + 1
  | .agg parts => uptoBulkAll parts + 1
  | .iface _ d => uptoBulk d + 1
  | .map entries => uptoBulkEntries entries + 1
  | .held _ => 1
def uptoBulkAll {H : Type} : List (DataW H) → Nat
  | [] => 0
  | d :: r => uptoBulk d + uptoBulkAll r
def uptoBulkEntries {H : Type} : List (Lit × DataW H) → Nat
  | [] => 0
  | x :: r => uptoBulkEntry x + uptoBulkEntries r
def uptoBulkEntry {H : Type} : Lit × DataW H → Nat
  | (.string bytes, d) => bytes.length + uptoBulk d + 1
  | (_, d) => uptoBulk d + 1
 end
def uptoSmall : (H : Type) → List (DataW H) → Bool := fun _ ds => decide (uptoBulkAll ds ≤ 1048576)
def OpenSpec.upto (s : _root_.Go.ChangeSpec) : _root_.Go.OpenSpec := { _root_.Go.OpenSpec.ofChange s with cond := some uptoSmall }

/-- 'laws.FnExactRuleRing', WHERE WHAT IT READS IS OF BULK AT MOST 1048576: true; the input reads as it did. -/
def fnExactRuleRingUptoRow : OpenClaim := { program := "ytmbcolkhmleibaa", sum := "0f438f35f1db4a666487801eea13dd7fd0720bf0d7412dfb7be75b8d205638c0", func := "loop.example/reversiblecircuits/laws.FnExactRuleRing", spec := "fnExactRuleRing", unfollowed := true, recurses := true, apart := false, narrowed := true }
def FnExactRuleRingUptoSaid : Prop := fnExactRuleRingUptoRow.holds Try.pinned (OpenSpec.upto fnExactRuleRingSpec)

/-- 'laws.FnExactRingNext', WHERE WHAT IT READS IS OF BULK AT MOST 1048576: true; the input reads as it did. -/
def fnExactRingNextUptoRow : OpenClaim := { program := "ytmbcolkhmleibaa", sum := "0f438f35f1db4a666487801eea13dd7fd0720bf0d7412dfb7be75b8d205638c0", func := "loop.example/reversiblecircuits/laws.FnExactRingNext", spec := "fnExactRingNext", unfollowed := true, recurses := true, apart := false, narrowed := true }
def FnExactRingNextUptoSaid : Prop := fnExactRingNextUptoRow.holds Try.pinned (OpenSpec.upto fnExactRingNextSpec)

/-- 'laws.FnRingFlip', WHERE WHAT IT READS IS OF BULK AT MOST 1048576: true; the input reads as it did. -/
def fnRingFlipUptoRow : OpenClaim := { program := "ytmbcolkhmleibaa", sum := "0f438f35f1db4a666487801eea13dd7fd0720bf0d7412dfb7be75b8d205638c0", func := "loop.example/reversiblecircuits/laws.FnRingFlip", spec := "fnRingFlip", unfollowed := true, recurses := true, apart := false, narrowed := true }
def FnRingFlipUptoSaid : Prop := fnRingFlipUptoRow.holds Try.pinned (OpenSpec.upto fnRingFlipSpec)

/-- 'laws.FnRingAdd', WHERE WHAT IT READS IS OF BULK AT MOST 1048576: true; the input reads as it did. -/
def fnRingAddUptoRow : OpenClaim := { program := "ytmbcolkhmleibaa", sum := "0f438f35f1db4a666487801eea13dd7fd0720bf0d7412dfb7be75b8d205638c0", func := "loop.example/reversiblecircuits/laws.FnRingAdd", spec := "fnRingAdd", unfollowed := true, recurses := true, apart := false, narrowed := true }
def FnRingAddUptoSaid : Prop := fnRingAddUptoRow.holds Try.pinned (OpenSpec.upto fnRingAddSpec)

/-- 'laws.FnExactRingBefore', WHERE WHAT IT READS IS OF BULK AT MOST 1048576: true; the input reads as it did. -/
def fnExactRingBeforeUptoRow : OpenClaim := { program := "ytmbcolkhmleibaa", sum := "0f438f35f1db4a666487801eea13dd7fd0720bf0d7412dfb7be75b8d205638c0", func := "loop.example/reversiblecircuits/laws.FnExactRingBefore", spec := "fnExactRingBefore", unfollowed := true, recurses := true, apart := false, narrowed := true }
def FnExactRingBeforeUptoSaid : Prop := fnExactRingBeforeUptoRow.holds Try.pinned (OpenSpec.upto fnExactRingBeforeSpec)

/-- 'laws.FnRingBefore', WHERE WHAT IT READS IS OF BULK AT MOST 1048576: true; the input reads as it did. -/
def fnRingBeforeUptoRow : OpenClaim := { program := "ytmbcolkhmleibaa", sum := "0f438f35f1db4a666487801eea13dd7fd0720bf0d7412dfb7be75b8d205638c0", func := "loop.example/reversiblecircuits/laws.FnRingBefore", spec := "fnRingBefore", unfollowed := true, recurses := true, apart := false, narrowed := true }
def FnRingBeforeUptoSaid : Prop := fnRingBeforeUptoRow.holds Try.pinned (OpenSpec.upto fnRingBeforeSpec)

/-- 'laws.FnRingNext', WHERE WHAT IT READS IS OF BULK AT MOST 1048576: true; the input reads as it did. -/
def fnRingNextUptoRow : OpenClaim := { program := "ytmbcolkhmleibaa", sum := "0f438f35f1db4a666487801eea13dd7fd0720bf0d7412dfb7be75b8d205638c0", func := "loop.example/reversiblecircuits/laws.FnRingNext", spec := "fnRingNext", unfollowed := true, recurses := true, apart := false, narrowed := true }
def FnRingNextUptoSaid : Prop := fnRingNextUptoRow.holds Try.pinned (OpenSpec.upto fnRingNextSpec)

/-- 'laws.FnExactRingPeriod', WHERE WHAT IT READS IS OF BULK AT MOST 1048576: true; the input reads as it did. -/
def fnExactRingPeriodUptoRow : OpenClaim := { program := "ytmbcolkhmleibaa", sum := "0f438f35f1db4a666487801eea13dd7fd0720bf0d7412dfb7be75b8d205638c0", func := "loop.example/reversiblecircuits/laws.FnExactRingPeriod", spec := "fnExactRingPeriod", unfollowed := true, recurses := true, apart := false, narrowed := true }
def FnExactRingPeriodUptoSaid : Prop := fnExactRingPeriodUptoRow.holds Try.pinned (OpenSpec.upto fnExactRingPeriodSpec)

end Rows
end Go.Proofs.Ytmbcolkhmleibaa
