/-
  No cell of these rows narrows 'for every input' (looked for: loops, veiled, ifaces, maps, wideKeys, modest, calm, conditions, laid).
  DERIVED. THE GIVEN ROWS OF THIS SEAT. 12 by the template 'for every input the law returns true; each argument reads behind the call as it read before'; 0 by the template 'total and deterministic' (their statements: YtmianlihdiccjaaTotals.lean).
  GIVEN WITH THE SEED: the statements are not yours to turn. If you find one false, say at which input.
  Laid BY PROGRAM, IN A SANDBOX (cutbox-rows.mjs): the forced cells as the released guide's own fill.sh prints them over the translation e4347795db59161b… (all of the seat's roots in one cut). By AI agents, Wed Nov 11 2026. No macro, syntax, notation, axiom, sorry.
-/
import Derived.Test.YtmianlihdiccjaaChecked
import GoSem.Claim
import GoSem.ClaimJoined
import GoSem.ClaimMapViews
import Derived.JoinedTies
import Derived.KernelRfl
namespace Go.Proofs.Ytmianlihdiccjaa
/- THE CELL 'sum', in the pinned program and in every row, IS THE sha256 OF THE DUMP (.gsa) THAT YtmianlihdiccjaaProg.lean LOADS. Nothing in Lean hashes anything: it is a label: what it is worth is what the hold of that sum in a sandbox is worth. -/
noncomputable def Try.pinned : Pinned := { name := "ytmianlihdiccjaa", sum := "e4347795db59161b056cf841de3ae7471e0a65f39392af34cc70dae7930360fd", checked := Try.checked }
namespace Rows
def none {H : Type} : Left H := { results := [], args := [] }

/-- 'laws.FnExactFieldValid': WHATEVER THE INPUT: true; the input reads as it did. -/
def fnExactFieldValidSpec : ChangeSpec := { name := "fnExactFieldValid", fn := fun _ => fun
  | [d] => { results := [.lit (.bool true)], args := [d] }
  | _ => none }
def fnExactFieldValidRow : OpenClaim := { program := "ytmianlihdiccjaa", sum := "e4347795db59161b056cf841de3ae7471e0a65f39392af34cc70dae7930360fd", func := "loop.example/reversiblecircuits/laws.FnExactFieldValid", spec := "fnExactFieldValid", apart := false }
def FnExactFieldValidSaid : Prop := fnExactFieldValidRow.holds Try.pinned (OpenSpec.ofChange fnExactFieldValidSpec)

/-- ITS FALSE NEIGHBOUR: 'it returns false'. Refute it at one input. -/
def fnExactFieldValidWrong : ChangeSpec := { name := "fnExactFieldValid", fn := fun _ => fun
  | [d] => { results := [.lit (.bool false)], args := [d] }
  | _ => none }
def FnExactFieldValidWrongFalsely : Prop := fnExactFieldValidRow.holds Try.pinned (OpenSpec.ofChange fnExactFieldValidWrong)

/-- 'laws.FnFieldValid': WHATEVER THE INPUT: true; the input reads as it did. -/
def fnFieldValidSpec : ChangeSpec := { name := "fnFieldValid", fn := fun _ => fun
  | [d] => { results := [.lit (.bool true)], args := [d] }
  | _ => none }
def fnFieldValidRow : OpenClaim := { program := "ytmianlihdiccjaa", sum := "e4347795db59161b056cf841de3ae7471e0a65f39392af34cc70dae7930360fd", func := "loop.example/reversiblecircuits/laws.FnFieldValid", spec := "fnFieldValid", apart := false }
def FnFieldValidSaid : Prop := fnFieldValidRow.holds Try.pinned (OpenSpec.ofChange fnFieldValidSpec)

/-- ITS FALSE NEIGHBOUR: 'it returns false'. Refute it at one input. -/
def fnFieldValidWrong : ChangeSpec := { name := "fnFieldValid", fn := fun _ => fun
  | [d] => { results := [.lit (.bool false)], args := [d] }
  | _ => none }
def FnFieldValidWrongFalsely : Prop := fnFieldValidRow.holds Try.pinned (OpenSpec.ofChange fnFieldValidWrong)

/-- 'laws.FnExactBallsMany': WHATEVER THE INPUT: true; the input reads as it did. -/
def fnExactBallsManySpec : ChangeSpec := { name := "fnExactBallsMany", fn := fun _ => fun
  | [d] => { results := [.lit (.bool true)], args := [d] }
  | _ => none }
def fnExactBallsManyRow : OpenClaim := { program := "ytmianlihdiccjaa", sum := "e4347795db59161b056cf841de3ae7471e0a65f39392af34cc70dae7930360fd", func := "loop.example/reversiblecircuits/laws.FnExactBallsMany", spec := "fnExactBallsMany", apart := false }
def FnExactBallsManySaid : Prop := fnExactBallsManyRow.holds Try.pinned (OpenSpec.ofChange fnExactBallsManySpec)

/-- ITS FALSE NEIGHBOUR: 'it returns false'. Refute it at one input. -/
def fnExactBallsManyWrong : ChangeSpec := { name := "fnExactBallsMany", fn := fun _ => fun
  | [d] => { results := [.lit (.bool false)], args := [d] }
  | _ => none }
def FnExactBallsManyWrongFalsely : Prop := fnExactBallsManyRow.holds Try.pinned (OpenSpec.ofChange fnExactBallsManyWrong)

/-- 'laws.FnExactSameField': WHATEVER THE INPUT: true; the input reads as it did. -/
def fnExactSameFieldSpec : ChangeSpec := { name := "fnExactSameField", fn := fun _ => fun
  | [d1, d2] => { results := [.lit (.bool true)], args := [d1, d2] }
  | _ => none }
def fnExactSameFieldRow : OpenClaim := { program := "ytmianlihdiccjaa", sum := "e4347795db59161b056cf841de3ae7471e0a65f39392af34cc70dae7930360fd", func := "loop.example/reversiblecircuits/laws.FnExactSameField", spec := "fnExactSameField", apart := false }
def FnExactSameFieldSaid : Prop := fnExactSameFieldRow.holds Try.pinned (OpenSpec.ofChange fnExactSameFieldSpec)

/-- ITS FALSE NEIGHBOUR: 'it returns false'. Refute it at one input. -/
def fnExactSameFieldWrong : ChangeSpec := { name := "fnExactSameField", fn := fun _ => fun
  | [d1, d2] => { results := [.lit (.bool false)], args := [d1, d2] }
  | _ => none }
def FnExactSameFieldWrongFalsely : Prop := fnExactSameFieldRow.holds Try.pinned (OpenSpec.ofChange fnExactSameFieldWrong)

/-- 'laws.FnExactFieldTurn': WHATEVER THE INPUT: true; the input reads as it did. -/
def fnExactFieldTurnSpec : ChangeSpec := { name := "fnExactFieldTurn", fn := fun _ => fun
  | [d] => { results := [.lit (.bool true)], args := [d] }
  | _ => none }
def fnExactFieldTurnRow : OpenClaim := { program := "ytmianlihdiccjaa", sum := "e4347795db59161b056cf841de3ae7471e0a65f39392af34cc70dae7930360fd", func := "loop.example/reversiblecircuits/laws.FnExactFieldTurn", spec := "fnExactFieldTurn", unfollowed := true, recurses := true, apart := false }
def FnExactFieldTurnSaid : Prop := fnExactFieldTurnRow.holds Try.pinned (OpenSpec.ofChange fnExactFieldTurnSpec)

/-- ITS FALSE NEIGHBOUR: 'it returns false'. Refute it at one input. -/
def fnExactFieldTurnWrong : ChangeSpec := { name := "fnExactFieldTurn", fn := fun _ => fun
  | [d] => { results := [.lit (.bool false)], args := [d] }
  | _ => none }
def FnExactFieldTurnWrongFalsely : Prop := fnExactFieldTurnRow.holds Try.pinned (OpenSpec.ofChange fnExactFieldTurnWrong)

/-- 'laws.FnExactFieldMove': WHATEVER THE INPUT: true; the input reads as it did. -/
def fnExactFieldMoveSpec : ChangeSpec := { name := "fnExactFieldMove", fn := fun _ => fun
  | [d1, d2, d3] => { results := [.lit (.bool true)], args := [d1, d2, d3] }
  | _ => none }
def fnExactFieldMoveRow : OpenClaim := { program := "ytmianlihdiccjaa", sum := "e4347795db59161b056cf841de3ae7471e0a65f39392af34cc70dae7930360fd", func := "loop.example/reversiblecircuits/laws.FnExactFieldMove", spec := "fnExactFieldMove", unfollowed := true, recurses := true, apart := false }
def FnExactFieldMoveSaid : Prop := fnExactFieldMoveRow.holds Try.pinned (OpenSpec.ofChange fnExactFieldMoveSpec)

/-- ITS FALSE NEIGHBOUR: 'it returns false'. Refute it at one input. -/
def fnExactFieldMoveWrong : ChangeSpec := { name := "fnExactFieldMove", fn := fun _ => fun
  | [d1, d2, d3] => { results := [.lit (.bool false)], args := [d1, d2, d3] }
  | _ => none }
def FnExactFieldMoveWrongFalsely : Prop := fnExactFieldMoveRow.holds Try.pinned (OpenSpec.ofChange fnExactFieldMoveWrong)

/-- 'laws.FnFieldMove': WHATEVER THE INPUT: true; the input reads as it did. -/
def fnFieldMoveSpec : ChangeSpec := { name := "fnFieldMove", fn := fun _ => fun
  | [d] => { results := [.lit (.bool true)], args := [d] }
  | _ => none }
def fnFieldMoveRow : OpenClaim := { program := "ytmianlihdiccjaa", sum := "e4347795db59161b056cf841de3ae7471e0a65f39392af34cc70dae7930360fd", func := "loop.example/reversiblecircuits/laws.FnFieldMove", spec := "fnFieldMove", unfollowed := true, recurses := true, apart := false }
def FnFieldMoveSaid : Prop := fnFieldMoveRow.holds Try.pinned (OpenSpec.ofChange fnFieldMoveSpec)

/-- ITS FALSE NEIGHBOUR: 'it returns false'. Refute it at one input. -/
def fnFieldMoveWrong : ChangeSpec := { name := "fnFieldMove", fn := fun _ => fun
  | [d] => { results := [.lit (.bool false)], args := [d] }
  | _ => none }
def FnFieldMoveWrongFalsely : Prop := fnFieldMoveRow.holds Try.pinned (OpenSpec.ofChange fnFieldMoveWrong)

/-- 'laws.FnSameField': WHATEVER THE INPUT: true; the input reads as it did. -/
def fnSameFieldSpec : ChangeSpec := { name := "fnSameField", fn := fun _ => fun
  | [d] => { results := [.lit (.bool true)], args := [d] }
  | _ => none }
def fnSameFieldRow : OpenClaim := { program := "ytmianlihdiccjaa", sum := "e4347795db59161b056cf841de3ae7471e0a65f39392af34cc70dae7930360fd", func := "loop.example/reversiblecircuits/laws.FnSameField", spec := "fnSameField", apart := false }
def FnSameFieldSaid : Prop := fnSameFieldRow.holds Try.pinned (OpenSpec.ofChange fnSameFieldSpec)

/-- ITS FALSE NEIGHBOUR: 'it returns false'. Refute it at one input. -/
def fnSameFieldWrong : ChangeSpec := { name := "fnSameField", fn := fun _ => fun
  | [d] => { results := [.lit (.bool false)], args := [d] }
  | _ => none }
def FnSameFieldWrongFalsely : Prop := fnSameFieldRow.holds Try.pinned (OpenSpec.ofChange fnSameFieldWrong)

/-- 'laws.FnExactFieldStep': WHATEVER THE INPUT: true; the input reads as it did. -/
def fnExactFieldStepSpec : ChangeSpec := { name := "fnExactFieldStep", fn := fun _ => fun
  | [d] => { results := [.lit (.bool true)], args := [d] }
  | _ => none }
def fnExactFieldStepRow : OpenClaim := { program := "ytmianlihdiccjaa", sum := "e4347795db59161b056cf841de3ae7471e0a65f39392af34cc70dae7930360fd", func := "loop.example/reversiblecircuits/laws.FnExactFieldStep", spec := "fnExactFieldStep", unfollowed := true, recurses := true, apart := false }
def FnExactFieldStepSaid : Prop := fnExactFieldStepRow.holds Try.pinned (OpenSpec.ofChange fnExactFieldStepSpec)

/-- ITS FALSE NEIGHBOUR: 'it returns false'. Refute it at one input. -/
def fnExactFieldStepWrong : ChangeSpec := { name := "fnExactFieldStep", fn := fun _ => fun
  | [d] => { results := [.lit (.bool false)], args := [d] }
  | _ => none }
def FnExactFieldStepWrongFalsely : Prop := fnExactFieldStepRow.holds Try.pinned (OpenSpec.ofChange fnExactFieldStepWrong)

/-- 'laws.FnExactStill': WHATEVER THE INPUT: true; the input reads as it did. -/
def fnExactStillSpec : ChangeSpec := { name := "fnExactStill", fn := fun _ => fun
  | [d] => { results := [.lit (.bool true)], args := [d] }
  | _ => none }
def fnExactStillRow : OpenClaim := { program := "ytmianlihdiccjaa", sum := "e4347795db59161b056cf841de3ae7471e0a65f39392af34cc70dae7930360fd", func := "loop.example/reversiblecircuits/laws.FnExactStill", spec := "fnExactStill", unfollowed := true, recurses := true, apart := false }
def FnExactStillSaid : Prop := fnExactStillRow.holds Try.pinned (OpenSpec.ofChange fnExactStillSpec)

/-- ITS FALSE NEIGHBOUR: 'it returns false'. Refute it at one input. -/
def fnExactStillWrong : ChangeSpec := { name := "fnExactStill", fn := fun _ => fun
  | [d] => { results := [.lit (.bool false)], args := [d] }
  | _ => none }
def FnExactStillWrongFalsely : Prop := fnExactStillRow.holds Try.pinned (OpenSpec.ofChange fnExactStillWrong)

/-- 'laws.FnExactFieldPeriod': WHATEVER THE INPUT: true; the input reads as it did. -/
def fnExactFieldPeriodSpec : ChangeSpec := { name := "fnExactFieldPeriod", fn := fun _ => fun
  | [d] => { results := [.lit (.bool true)], args := [d] }
  | _ => none }
def fnExactFieldPeriodRow : OpenClaim := { program := "ytmianlihdiccjaa", sum := "e4347795db59161b056cf841de3ae7471e0a65f39392af34cc70dae7930360fd", func := "loop.example/reversiblecircuits/laws.FnExactFieldPeriod", spec := "fnExactFieldPeriod", unfollowed := true, recurses := true, apart := false }
def FnExactFieldPeriodSaid : Prop := fnExactFieldPeriodRow.holds Try.pinned (OpenSpec.ofChange fnExactFieldPeriodSpec)

/-- ITS FALSE NEIGHBOUR: 'it returns false'. Refute it at one input. -/
def fnExactFieldPeriodWrong : ChangeSpec := { name := "fnExactFieldPeriod", fn := fun _ => fun
  | [d] => { results := [.lit (.bool false)], args := [d] }
  | _ => none }
def FnExactFieldPeriodWrongFalsely : Prop := fnExactFieldPeriodRow.holds Try.pinned (OpenSpec.ofChange fnExactFieldPeriodWrong)

/-- 'laws.FnExactFieldText': WHATEVER THE INPUT: true; the input reads as it did. -/
def fnExactFieldTextSpec : ChangeSpec := { name := "fnExactFieldText", fn := fun _ => fun
  | [d] => { results := [.lit (.bool true)], args := [d] }
  | _ => none }
def fnExactFieldTextRow : OpenClaim := { program := "ytmianlihdiccjaa", sum := "e4347795db59161b056cf841de3ae7471e0a65f39392af34cc70dae7930360fd", func := "loop.example/reversiblecircuits/laws.FnExactFieldText", spec := "fnExactFieldText", inPlace := ["internal/abi.NoEscape", "internal/bytealg.MakeNoZero"], unfollowed := true, recurses := true, apart := false }
def FnExactFieldTextSaid : Prop := fnExactFieldTextRow.holds Try.pinned (OpenSpec.ofChange fnExactFieldTextSpec)

/-- ITS FALSE NEIGHBOUR: 'it returns false'. Refute it at one input. -/
def fnExactFieldTextWrong : ChangeSpec := { name := "fnExactFieldText", fn := fun _ => fun
  | [d] => { results := [.lit (.bool false)], args := [d] }
  | _ => none }
def FnExactFieldTextWrongFalsely : Prop := fnExactFieldTextRow.holds Try.pinned (OpenSpec.ofChange fnExactFieldTextWrong)

/- THE SECOND FORM. 'bulk': how many values and letters a reading holds, each counted each time it is reached (what is shared counts as often as it is met; a slice's spare places count too). A statement '..UptoSaid' is the law's where the arguments, and the package variables that the reading takes, are together of bulk at most 1048576: NARROWER than '..Said'. Prove '..Said' where nothing that the law and all that it calls make is longer than what came in: it says more and counts as full. Else prove '..UptoSaid'. A law counts once. -/
mutual
def uptoBulk {H : Type} : DataW H → Nat
  | .lit (.string bytes) => bytes.length + 1
  | .lit _ => 1
  | .nil => 1
  | .ptr d => uptoBulk d + 1
  | .slice elems spare => uptoBulkAll elems + uptoBulkAll spare + 1
  | .agg parts => uptoBulkAll parts + 1
  | .iface _ d => uptoBulk d + 1
  | .map entries => uptoBulkEntries entries + 1
  | .held _ => 1
def uptoBulkAll {H : Type} : List (DataW H) → Nat
  | [] => 0
  | d :: r => uptoBulk d + uptoBulkAll r
def uptoBulkEntries {H : Type} : List (Lit × DataW H) → Nat
  | [] => 0
  | x :: r => uptoBulkEntry x + uptoBulkEntries r
def uptoBulkEntry {H : Type} : Lit × DataW H → Nat
  | (.string bytes, d) => bytes.length + uptoBulk d + 1
  | (_, d) => uptoBulk d + 1
 end
def uptoSmall : (H : Type) → List (DataW H) → Bool := fun _ ds => decide (uptoBulkAll ds ≤ 1048576)
def OpenSpec.upto (s : _root_.Go.ChangeSpec) : _root_.Go.OpenSpec := { _root_.Go.OpenSpec.ofChange s with cond := some uptoSmall }

/-- 'laws.FnExactFieldValid', WHERE WHAT IT READS IS OF BULK AT MOST 1048576: true; the input reads as it did. -/
def fnExactFieldValidUptoRow : OpenClaim := { program := "ytmianlihdiccjaa", sum := "e4347795db59161b056cf841de3ae7471e0a65f39392af34cc70dae7930360fd", func := "loop.example/reversiblecircuits/laws.FnExactFieldValid", spec := "fnExactFieldValid", apart := false, narrowed := true }
def FnExactFieldValidUptoSaid : Prop := fnExactFieldValidUptoRow.holds Try.pinned (OpenSpec.upto fnExactFieldValidSpec)

/-- 'laws.FnFieldValid', WHERE WHAT IT READS IS OF BULK AT MOST 1048576: true; the input reads as it did. -/
def fnFieldValidUptoRow : OpenClaim := { program := "ytmianlihdiccjaa", sum := "e4347795db59161b056cf841de3ae7471e0a65f39392af34cc70dae7930360fd", func := "loop.example/reversiblecircuits/laws.FnFieldValid", spec := "fnFieldValid", apart := false, narrowed := true }
def FnFieldValidUptoSaid : Prop := fnFieldValidUptoRow.holds Try.pinned (OpenSpec.upto fnFieldValidSpec)

/-- 'laws.FnExactBallsMany', WHERE WHAT IT READS IS OF BULK AT MOST 1048576: true; the input reads as it did. -/
def fnExactBallsManyUptoRow : OpenClaim := { program := "ytmianlihdiccjaa", sum := "e4347795db59161b056cf841de3ae7471e0a65f39392af34cc70dae7930360fd", func := "loop.example/reversiblecircuits/laws.FnExactBallsMany", spec := "fnExactBallsMany", apart := false, narrowed := true }
def FnExactBallsManyUptoSaid : Prop := fnExactBallsManyUptoRow.holds Try.pinned (OpenSpec.upto fnExactBallsManySpec)

/-- 'laws.FnExactSameField', WHERE WHAT IT READS IS OF BULK AT MOST 1048576: true; the input reads as it did. -/
def fnExactSameFieldUptoRow : OpenClaim := { program := "ytmianlihdiccjaa", sum := "e4347795db59161b056cf841de3ae7471e0a65f39392af34cc70dae7930360fd", func := "loop.example/reversiblecircuits/laws.FnExactSameField", spec := "fnExactSameField", apart := false, narrowed := true }
def FnExactSameFieldUptoSaid : Prop := fnExactSameFieldUptoRow.holds Try.pinned (OpenSpec.upto fnExactSameFieldSpec)

/-- 'laws.FnExactFieldTurn', WHERE WHAT IT READS IS OF BULK AT MOST 1048576: true; the input reads as it did. -/
def fnExactFieldTurnUptoRow : OpenClaim := { program := "ytmianlihdiccjaa", sum := "e4347795db59161b056cf841de3ae7471e0a65f39392af34cc70dae7930360fd", func := "loop.example/reversiblecircuits/laws.FnExactFieldTurn", spec := "fnExactFieldTurn", unfollowed := true, recurses := true, apart := false, narrowed := true }
def FnExactFieldTurnUptoSaid : Prop := fnExactFieldTurnUptoRow.holds Try.pinned (OpenSpec.upto fnExactFieldTurnSpec)

/-- 'laws.FnExactFieldMove', WHERE WHAT IT READS IS OF BULK AT MOST 1048576: true; the input reads as it did. -/
def fnExactFieldMoveUptoRow : OpenClaim := { program := "ytmianlihdiccjaa", sum := "e4347795db59161b056cf841de3ae7471e0a65f39392af34cc70dae7930360fd", func := "loop.example/reversiblecircuits/laws.FnExactFieldMove", spec := "fnExactFieldMove", unfollowed := true, recurses := true, apart := false, narrowed := true }
def FnExactFieldMoveUptoSaid : Prop := fnExactFieldMoveUptoRow.holds Try.pinned (OpenSpec.upto fnExactFieldMoveSpec)

/-- 'laws.FnFieldMove', WHERE WHAT IT READS IS OF BULK AT MOST 1048576: true; the input reads as it did. -/
def fnFieldMoveUptoRow : OpenClaim := { program := "ytmianlihdiccjaa", sum := "e4347795db59161b056cf841de3ae7471e0a65f39392af34cc70dae7930360fd", func := "loop.example/reversiblecircuits/laws.FnFieldMove", spec := "fnFieldMove", unfollowed := true, recurses := true, apart := false, narrowed := true }
def FnFieldMoveUptoSaid : Prop := fnFieldMoveUptoRow.holds Try.pinned (OpenSpec.upto fnFieldMoveSpec)

/-- 'laws.FnSameField', WHERE WHAT IT READS IS OF BULK AT MOST 1048576: true; the input reads as it did. -/
def fnSameFieldUptoRow : OpenClaim := { program := "ytmianlihdiccjaa", sum := "e4347795db59161b056cf841de3ae7471e0a65f39392af34cc70dae7930360fd", func := "loop.example/reversiblecircuits/laws.FnSameField", spec := "fnSameField", apart := false, narrowed := true }
def FnSameFieldUptoSaid : Prop := fnSameFieldUptoRow.holds Try.pinned (OpenSpec.upto fnSameFieldSpec)

/-- 'laws.FnExactFieldStep', WHERE WHAT IT READS IS OF BULK AT MOST 1048576: true; the input reads as it did. -/
def fnExactFieldStepUptoRow : OpenClaim := { program := "ytmianlihdiccjaa", sum := "e4347795db59161b056cf841de3ae7471e0a65f39392af34cc70dae7930360fd", func := "loop.example/reversiblecircuits/laws.FnExactFieldStep", spec := "fnExactFieldStep", unfollowed := true, recurses := true, apart := false, narrowed := true }
def FnExactFieldStepUptoSaid : Prop := fnExactFieldStepUptoRow.holds Try.pinned (OpenSpec.upto fnExactFieldStepSpec)

/-- 'laws.FnExactStill', WHERE WHAT IT READS IS OF BULK AT MOST 1048576: true; the input reads as it did. -/
def fnExactStillUptoRow : OpenClaim := { program := "ytmianlihdiccjaa", sum := "e4347795db59161b056cf841de3ae7471e0a65f39392af34cc70dae7930360fd", func := "loop.example/reversiblecircuits/laws.FnExactStill", spec := "fnExactStill", unfollowed := true, recurses := true, apart := false, narrowed := true }
def FnExactStillUptoSaid : Prop := fnExactStillUptoRow.holds Try.pinned (OpenSpec.upto fnExactStillSpec)

/-- 'laws.FnExactFieldPeriod', WHERE WHAT IT READS IS OF BULK AT MOST 1048576: true; the input reads as it did. -/
def fnExactFieldPeriodUptoRow : OpenClaim := { program := "ytmianlihdiccjaa", sum := "e4347795db59161b056cf841de3ae7471e0a65f39392af34cc70dae7930360fd", func := "loop.example/reversiblecircuits/laws.FnExactFieldPeriod", spec := "fnExactFieldPeriod", unfollowed := true, recurses := true, apart := false, narrowed := true }
def FnExactFieldPeriodUptoSaid : Prop := fnExactFieldPeriodUptoRow.holds Try.pinned (OpenSpec.upto fnExactFieldPeriodSpec)

/-- 'laws.FnExactFieldText', WHERE WHAT IT READS IS OF BULK AT MOST 1048576: true; the input reads as it did. -/
def fnExactFieldTextUptoRow : OpenClaim := { program := "ytmianlihdiccjaa", sum := "e4347795db59161b056cf841de3ae7471e0a65f39392af34cc70dae7930360fd", func := "loop.example/reversiblecircuits/laws.FnExactFieldText", spec := "fnExactFieldText", inPlace := ["internal/abi.NoEscape", "internal/bytealg.MakeNoZero"], unfollowed := true, recurses := true, apart := false, narrowed := true }
def FnExactFieldTextUptoSaid : Prop := fnExactFieldTextUptoRow.holds Try.pinned (OpenSpec.upto fnExactFieldTextSpec)

end Rows
end Go.Proofs.Ytmianlihdiccjaa
