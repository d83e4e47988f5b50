/-
  No cell of these rows narrows 'for every input' (looked for: loops, veiled, ifaces, maps, wideKeys, modest, calm, conditions, laid).
  DERIVED. THE GIVEN ROWS OF THIS SEAT. 12 by the template 'for every input the law returns true; each argument reads behind the call as it read before'; 0 by the template 'total and deterministic' (their statements: YtkphaioommhkcaaTotals.lean).
  GIVEN WITH THE SEED: the statements are not yours to turn. If you find one false, say at which input.
  Laid BY PROGRAM, IN A SANDBOX (cutbox-rows.mjs): the forced cells as the released guide's own fill.sh prints them over the translation 41b6166ec4b251c0… (all of the seat's roots in one cut). By AI agents, Wed Nov 11 2026. No macro, syntax, notation, axiom, sorry.
-/
import Derived.Test.YtkphaioommhkcaaChecked
import GoSem.Claim
import GoSem.ClaimJoined
import GoSem.ClaimMapViews
import Derived.JoinedTies
import Derived.KernelRfl
namespace Go.Proofs.Ytkphaioommhkcaa
/- THE CELL 'sum', in the pinned program and in every row, IS THE sha256 OF THE DUMP (.gsa) THAT YtkphaioommhkcaaProg.lean LOADS. Nothing in Lean hashes anything: it is a label: what it is worth is what the hold of that sum in a sandbox is worth. -/
noncomputable def Try.pinned : Pinned := { name := "ytkphaioommhkcaa", sum := "41b6166ec4b251c05d44b0b98bb82209faa2ea423e6b5de8d3ad7da0146e2191", checked := Try.checked }
namespace Rows
def none {H : Type} : Left H := { results := [], args := [] }

/-- 'laws.FnExactPlacesValid': WHATEVER THE INPUT: true; the input reads as it did. -/
def fnExactPlacesValidSpec : ChangeSpec := { name := "fnExactPlacesValid", fn := fun _ => fun
  | [d1, d2] => { results := [.lit (.bool true)], args := [d1, d2] }
  | _ => none }
def fnExactPlacesValidRow : OpenClaim := { program := "ytkphaioommhkcaa", sum := "41b6166ec4b251c05d44b0b98bb82209faa2ea423e6b5de8d3ad7da0146e2191", func := "loop.example/reversiblecircuits/laws.FnExactPlacesValid", spec := "fnExactPlacesValid", apart := false }
def FnExactPlacesValidSaid : Prop := fnExactPlacesValidRow.holds Try.pinned (OpenSpec.ofChange fnExactPlacesValidSpec)

/-- ITS FALSE NEIGHBOUR: 'it returns false'. Refute it at one input. -/
def fnExactPlacesValidWrong : ChangeSpec := { name := "fnExactPlacesValid", fn := fun _ => fun
  | [d1, d2] => { results := [.lit (.bool false)], args := [d1, d2] }
  | _ => none }
def FnExactPlacesValidWrongFalsely : Prop := fnExactPlacesValidRow.holds Try.pinned (OpenSpec.ofChange fnExactPlacesValidWrong)

/-- 'laws.FnExactMoveMay': WHATEVER THE INPUT: true; the input reads as it did. -/
def fnExactMoveMaySpec : ChangeSpec := { name := "fnExactMoveMay", fn := fun _ => fun
  | [d1, d2, d3] => { results := [.lit (.bool true)], args := [d1, d2, d3] }
  | _ => none }
def fnExactMoveMayRow : OpenClaim := { program := "ytkphaioommhkcaa", sum := "41b6166ec4b251c05d44b0b98bb82209faa2ea423e6b5de8d3ad7da0146e2191", func := "loop.example/reversiblecircuits/laws.FnExactMoveMay", spec := "fnExactMoveMay", apart := false }
def FnExactMoveMaySaid : Prop := fnExactMoveMayRow.holds Try.pinned (OpenSpec.ofChange fnExactMoveMaySpec)

/-- ITS FALSE NEIGHBOUR: 'it returns false'. Refute it at one input. -/
def fnExactMoveMayWrong : ChangeSpec := { name := "fnExactMoveMay", fn := fun _ => fun
  | [d1, d2, d3] => { results := [.lit (.bool false)], args := [d1, d2, d3] }
  | _ => none }
def FnExactMoveMayWrongFalsely : Prop := fnExactMoveMayRow.holds Try.pinned (OpenSpec.ofChange fnExactMoveMayWrong)

/-- 'laws.FnExactMoveDo': WHATEVER THE INPUT: true; the input reads as it did. -/
def fnExactMoveDoSpec : ChangeSpec := { name := "fnExactMoveDo", fn := fun _ => fun
  | [d1, d2, d3] => { results := [.lit (.bool true)], args := [d1, d2, d3] }
  | _ => none }
def fnExactMoveDoRow : OpenClaim := { program := "ytkphaioommhkcaa", sum := "41b6166ec4b251c05d44b0b98bb82209faa2ea423e6b5de8d3ad7da0146e2191", func := "loop.example/reversiblecircuits/laws.FnExactMoveDo", spec := "fnExactMoveDo", apart := false }
def FnExactMoveDoSaid : Prop := fnExactMoveDoRow.holds Try.pinned (OpenSpec.ofChange fnExactMoveDoSpec)

/-- ITS FALSE NEIGHBOUR: 'it returns false'. Refute it at one input. -/
def fnExactMoveDoWrong : ChangeSpec := { name := "fnExactMoveDo", fn := fun _ => fun
  | [d1, d2, d3] => { results := [.lit (.bool false)], args := [d1, d2, d3] }
  | _ => none }
def FnExactMoveDoWrongFalsely : Prop := fnExactMoveDoRow.holds Try.pinned (OpenSpec.ofChange fnExactMoveDoWrong)

/-- 'laws.FnPlacesValid': WHATEVER THE INPUT: true; the input reads as it did. -/
def fnPlacesValidSpec : ChangeSpec := { name := "fnPlacesValid", fn := fun _ => fun
  | [d] => { results := [.lit (.bool true)], args := [d] }
  | _ => none }
def fnPlacesValidRow : OpenClaim := { program := "ytkphaioommhkcaa", sum := "41b6166ec4b251c05d44b0b98bb82209faa2ea423e6b5de8d3ad7da0146e2191", func := "loop.example/reversiblecircuits/laws.FnPlacesValid", spec := "fnPlacesValid", apart := false }
def FnPlacesValidSaid : Prop := fnPlacesValidRow.holds Try.pinned (OpenSpec.ofChange fnPlacesValidSpec)

/-- ITS FALSE NEIGHBOUR: 'it returns false'. Refute it at one input. -/
def fnPlacesValidWrong : ChangeSpec := { name := "fnPlacesValid", fn := fun _ => fun
  | [d] => { results := [.lit (.bool false)], args := [d] }
  | _ => none }
def FnPlacesValidWrongFalsely : Prop := fnPlacesValidRow.holds Try.pinned (OpenSpec.ofChange fnPlacesValidWrong)

/-- 'laws.FnExactMovesBack': WHATEVER THE INPUT: true; the input reads as it did. -/
def fnExactMovesBackSpec : ChangeSpec := { name := "fnExactMovesBack", fn := fun _ => fun
  | [d] => { results := [.lit (.bool true)], args := [d] }
  | _ => none }
def fnExactMovesBackRow : OpenClaim := { program := "ytkphaioommhkcaa", sum := "41b6166ec4b251c05d44b0b98bb82209faa2ea423e6b5de8d3ad7da0146e2191", func := "loop.example/reversiblecircuits/laws.FnExactMovesBack", spec := "fnExactMovesBack", unfollowed := true, recurses := true, apart := false }
def FnExactMovesBackSaid : Prop := fnExactMovesBackRow.holds Try.pinned (OpenSpec.ofChange fnExactMovesBackSpec)

/-- ITS FALSE NEIGHBOUR: 'it returns false'. Refute it at one input. -/
def fnExactMovesBackWrong : ChangeSpec := { name := "fnExactMovesBack", fn := fun _ => fun
  | [d] => { results := [.lit (.bool false)], args := [d] }
  | _ => none }
def FnExactMovesBackWrongFalsely : Prop := fnExactMovesBackRow.holds Try.pinned (OpenSpec.ofChange fnExactMovesBackWrong)

/-- 'laws.FnMoveMay': WHATEVER THE INPUT: true; the input reads as it did. -/
def fnMoveMaySpec : ChangeSpec := { name := "fnMoveMay", fn := fun _ => fun
  | [d] => { results := [.lit (.bool true)], args := [d] }
  | _ => none }
def fnMoveMayRow : OpenClaim := { program := "ytkphaioommhkcaa", sum := "41b6166ec4b251c05d44b0b98bb82209faa2ea423e6b5de8d3ad7da0146e2191", func := "loop.example/reversiblecircuits/laws.FnMoveMay", spec := "fnMoveMay", apart := false }
def FnMoveMaySaid : Prop := fnMoveMayRow.holds Try.pinned (OpenSpec.ofChange fnMoveMaySpec)

/-- ITS FALSE NEIGHBOUR: 'it returns false'. Refute it at one input. -/
def fnMoveMayWrong : ChangeSpec := { name := "fnMoveMay", fn := fun _ => fun
  | [d] => { results := [.lit (.bool false)], args := [d] }
  | _ => none }
def FnMoveMayWrongFalsely : Prop := fnMoveMayRow.holds Try.pinned (OpenSpec.ofChange fnMoveMayWrong)

/-- 'laws.FnExactPebblesOn': WHATEVER THE INPUT: true; the input reads as it did. -/
def fnExactPebblesOnSpec : ChangeSpec := { name := "fnExactPebblesOn", fn := fun _ => fun
  | [d1, d2] => { results := [.lit (.bool true)], args := [d1, d2] }
  | _ => none }
def fnExactPebblesOnRow : OpenClaim := { program := "ytkphaioommhkcaa", sum := "41b6166ec4b251c05d44b0b98bb82209faa2ea423e6b5de8d3ad7da0146e2191", func := "loop.example/reversiblecircuits/laws.FnExactPebblesOn", spec := "fnExactPebblesOn", apart := false }
def FnExactPebblesOnSaid : Prop := fnExactPebblesOnRow.holds Try.pinned (OpenSpec.ofChange fnExactPebblesOnSpec)

/-- ITS FALSE NEIGHBOUR: 'it returns false'. Refute it at one input. -/
def fnExactPebblesOnWrong : ChangeSpec := { name := "fnExactPebblesOn", fn := fun _ => fun
  | [d1, d2] => { results := [.lit (.bool false)], args := [d1, d2] }
  | _ => none }
def FnExactPebblesOnWrongFalsely : Prop := fnExactPebblesOnRow.holds Try.pinned (OpenSpec.ofChange fnExactPebblesOnWrong)

/-- 'laws.FnMoveDo': WHATEVER THE INPUT: true; the input reads as it did. -/
def fnMoveDoSpec : ChangeSpec := { name := "fnMoveDo", fn := fun _ => fun
  | [d] => { results := [.lit (.bool true)], args := [d] }
  | _ => none }
def fnMoveDoRow : OpenClaim := { program := "ytkphaioommhkcaa", sum := "41b6166ec4b251c05d44b0b98bb82209faa2ea423e6b5de8d3ad7da0146e2191", func := "loop.example/reversiblecircuits/laws.FnMoveDo", spec := "fnMoveDo", apart := false }
def FnMoveDoSaid : Prop := fnMoveDoRow.holds Try.pinned (OpenSpec.ofChange fnMoveDoSpec)

/-- ITS FALSE NEIGHBOUR: 'it returns false'. Refute it at one input. -/
def fnMoveDoWrong : ChangeSpec := { name := "fnMoveDo", fn := fun _ => fun
  | [d] => { results := [.lit (.bool false)], args := [d] }
  | _ => none }
def FnMoveDoWrongFalsely : Prop := fnMoveDoRow.holds Try.pinned (OpenSpec.ofChange fnMoveDoWrong)

/-- 'laws.FnPebblesOn': WHATEVER THE INPUT: true; the input reads as it did. -/
def fnPebblesOnSpec : ChangeSpec := { name := "fnPebblesOn", fn := fun _ => fun
  | [d] => { results := [.lit (.bool true)], args := [d] }
  | _ => none }
def fnPebblesOnRow : OpenClaim := { program := "ytkphaioommhkcaa", sum := "41b6166ec4b251c05d44b0b98bb82209faa2ea423e6b5de8d3ad7da0146e2191", func := "loop.example/reversiblecircuits/laws.FnPebblesOn", spec := "fnPebblesOn", apart := false }
def FnPebblesOnSaid : Prop := fnPebblesOnRow.holds Try.pinned (OpenSpec.ofChange fnPebblesOnSpec)

/-- ITS FALSE NEIGHBOUR: 'it returns false'. Refute it at one input. -/
def fnPebblesOnWrong : ChangeSpec := { name := "fnPebblesOn", fn := fun _ => fun
  | [d] => { results := [.lit (.bool false)], args := [d] }
  | _ => none }
def FnPebblesOnWrongFalsely : Prop := fnPebblesOnRow.holds Try.pinned (OpenSpec.ofChange fnPebblesOnWrong)

/-- 'laws.FnMovesBack': WHATEVER THE INPUT: true; the input reads as it did. -/
def fnMovesBackSpec : ChangeSpec := { name := "fnMovesBack", fn := fun _ => fun
  | [d] => { results := [.lit (.bool true)], args := [d] }
  | _ => none }
def fnMovesBackRow : OpenClaim := { program := "ytkphaioommhkcaa", sum := "41b6166ec4b251c05d44b0b98bb82209faa2ea423e6b5de8d3ad7da0146e2191", func := "loop.example/reversiblecircuits/laws.FnMovesBack", spec := "fnMovesBack", unfollowed := true, recurses := true, apart := false }
def FnMovesBackSaid : Prop := fnMovesBackRow.holds Try.pinned (OpenSpec.ofChange fnMovesBackSpec)

/-- ITS FALSE NEIGHBOUR: 'it returns false'. Refute it at one input. -/
def fnMovesBackWrong : ChangeSpec := { name := "fnMovesBack", fn := fun _ => fun
  | [d] => { results := [.lit (.bool false)], args := [d] }
  | _ => none }
def FnMovesBackWrongFalsely : Prop := fnMovesBackRow.holds Try.pinned (OpenSpec.ofChange fnMovesBackWrong)

/-- 'laws.FnExactMovesRun': WHATEVER THE INPUT: true; the input reads as it did. -/
def fnExactMovesRunSpec : ChangeSpec := { name := "fnExactMovesRun", fn := fun _ => fun
  | [d1, d2, d3] => { results := [.lit (.bool true)], args := [d1, d2, d3] }
  | _ => none }
def fnExactMovesRunRow : OpenClaim := { program := "ytkphaioommhkcaa", sum := "41b6166ec4b251c05d44b0b98bb82209faa2ea423e6b5de8d3ad7da0146e2191", func := "loop.example/reversiblecircuits/laws.FnExactMovesRun", spec := "fnExactMovesRun", apart := false }
def FnExactMovesRunSaid : Prop := fnExactMovesRunRow.holds Try.pinned (OpenSpec.ofChange fnExactMovesRunSpec)

/-- ITS FALSE NEIGHBOUR: 'it returns false'. Refute it at one input. -/
def fnExactMovesRunWrong : ChangeSpec := { name := "fnExactMovesRun", fn := fun _ => fun
  | [d1, d2, d3] => { results := [.lit (.bool false)], args := [d1, d2, d3] }
  | _ => none }
def FnExactMovesRunWrongFalsely : Prop := fnExactMovesRunRow.holds Try.pinned (OpenSpec.ofChange fnExactMovesRunWrong)

/-- 'laws.FnMovesRun': WHATEVER THE INPUT: true; the input reads as it did. -/
def fnMovesRunSpec : ChangeSpec := { name := "fnMovesRun", fn := fun _ => fun
  | [d] => { results := [.lit (.bool true)], args := [d] }
  | _ => none }
def fnMovesRunRow : OpenClaim := { program := "ytkphaioommhkcaa", sum := "41b6166ec4b251c05d44b0b98bb82209faa2ea423e6b5de8d3ad7da0146e2191", func := "loop.example/reversiblecircuits/laws.FnMovesRun", spec := "fnMovesRun", unfollowed := true, recurses := true, apart := false }
def FnMovesRunSaid : Prop := fnMovesRunRow.holds Try.pinned (OpenSpec.ofChange fnMovesRunSpec)

/-- ITS FALSE NEIGHBOUR: 'it returns false'. Refute it at one input. -/
def fnMovesRunWrong : ChangeSpec := { name := "fnMovesRun", fn := fun _ => fun
  | [d] => { results := [.lit (.bool false)], args := [d] }
  | _ => none }
def FnMovesRunWrongFalsely : Prop := fnMovesRunRow.holds Try.pinned (OpenSpec.ofChange fnMovesRunWrong)

/- THE SECOND FORM. 'bulk': how many values and letters a reading holds, each counted each time it is reached (what is shared counts as often as it is met; a slice's spare places count too). A statement '..UptoSaid' is the law's where the arguments, and the package variables that the reading takes, are together of bulk at most 1048576: NARROWER than '..Said'. Prove '..Said' where nothing that the law and all that it calls make is longer than what came in: it says more and counts as full. Else prove '..UptoSaid'. A law counts once. -/
mutual
def uptoBulk {H : Type} : DataW H → Nat
  | .lit (.string bytes) => bytes.length + 1
  | .lit _ => 1
  | .nil => 1
  | .ptr d => uptoBulk d + 1
  | .slice elems spare => uptoBulkAll elems + uptoBulkAll spare + 1
  | .agg parts => uptoBulkAll parts + 1
  | .iface _ d => uptoBulk d + 1
  | .map entries => uptoBulkEntries entries + 1
  | .held _ => 1
def uptoBulkAll {H : Type} : List (DataW H) → Nat
  | [] => 0
  | d :: r => uptoBulk d + uptoBulkAll r
def uptoBulkEntries {H : Type} : List (Lit × DataW H) → Nat
  | [] => 0
  | x :: r => uptoBulkEntry x + uptoBulkEntries r
def uptoBulkEntry {H : Type} : Lit × DataW H → Nat
  | (.string bytes, d) => bytes.length + uptoBulk d + 1
  | (_, d) => uptoBulk d + 1
 end
def uptoSmall : (H : Type) → List (DataW H) → Bool := fun _ ds => decide (uptoBulkAll ds ≤ 1048576)
def OpenSpec.upto (s : _root_.Go.ChangeSpec) : _root_.Go.OpenSpec := { _root_.Go.OpenSpec.ofChange s with cond := some uptoSmall }

/-- 'laws.FnExactPlacesValid', WHERE WHAT IT READS IS OF BULK AT MOST 1048576: true; the input reads as it did. -/
def fnExactPlacesValidUptoRow : OpenClaim := { program := "ytkphaioommhkcaa", sum := "41b6166ec4b251c05d44b0b98bb82209faa2ea423e6b5de8d3ad7da0146e2191", func := "loop.example/reversiblecircuits/laws.FnExactPlacesValid", spec := "fnExactPlacesValid", apart := false, narrowed := true }
def FnExactPlacesValidUptoSaid : Prop := fnExactPlacesValidUptoRow.holds Try.pinned (OpenSpec.upto fnExactPlacesValidSpec)

/-- 'laws.FnExactMoveMay', WHERE WHAT IT READS IS OF BULK AT MOST 1048576: true; the input reads as it did. -/
def fnExactMoveMayUptoRow : OpenClaim := { program := "ytkphaioommhkcaa", sum := "41b6166ec4b251c05d44b0b98bb82209faa2ea423e6b5de8d3ad7da0146e2191", func := "loop.example/reversiblecircuits/laws.FnExactMoveMay", spec := "fnExactMoveMay", apart := false, narrowed := true }
def FnExactMoveMayUptoSaid : Prop := fnExactMoveMayUptoRow.holds Try.pinned (OpenSpec.upto fnExactMoveMaySpec)

/-- 'laws.FnExactMoveDo', WHERE WHAT IT READS IS OF BULK AT MOST 1048576: true; the input reads as it did. -/
def fnExactMoveDoUptoRow : OpenClaim := { program := "ytkphaioommhkcaa", sum := "41b6166ec4b251c05d44b0b98bb82209faa2ea423e6b5de8d3ad7da0146e2191", func := "loop.example/reversiblecircuits/laws.FnExactMoveDo", spec := "fnExactMoveDo", apart := false, narrowed := true }
def FnExactMoveDoUptoSaid : Prop := fnExactMoveDoUptoRow.holds Try.pinned (OpenSpec.upto fnExactMoveDoSpec)

/-- 'laws.FnPlacesValid', WHERE WHAT IT READS IS OF BULK AT MOST 1048576: true; the input reads as it did. -/
def fnPlacesValidUptoRow : OpenClaim := { program := "ytkphaioommhkcaa", sum := "41b6166ec4b251c05d44b0b98bb82209faa2ea423e6b5de8d3ad7da0146e2191", func := "loop.example/reversiblecircuits/laws.FnPlacesValid", spec := "fnPlacesValid", apart := false, narrowed := true }
def FnPlacesValidUptoSaid : Prop := fnPlacesValidUptoRow.holds Try.pinned (OpenSpec.upto fnPlacesValidSpec)

/-- 'laws.FnExactMovesBack', WHERE WHAT IT READS IS OF BULK AT MOST 1048576: true; the input reads as it did. -/
def fnExactMovesBackUptoRow : OpenClaim := { program := "ytkphaioommhkcaa", sum := "41b6166ec4b251c05d44b0b98bb82209faa2ea423e6b5de8d3ad7da0146e2191", func := "loop.example/reversiblecircuits/laws.FnExactMovesBack", spec := "fnExactMovesBack", unfollowed := true, recurses := true, apart := false, narrowed := true }
def FnExactMovesBackUptoSaid : Prop := fnExactMovesBackUptoRow.holds Try.pinned (OpenSpec.upto fnExactMovesBackSpec)

/-- 'laws.FnMoveMay', WHERE WHAT IT READS IS OF BULK AT MOST 1048576: true; the input reads as it did. -/
def fnMoveMayUptoRow : OpenClaim := { program := "ytkphaioommhkcaa", sum := "41b6166ec4b251c05d44b0b98bb82209faa2ea423e6b5de8d3ad7da0146e2191", func := "loop.example/reversiblecircuits/laws.FnMoveMay", spec := "fnMoveMay", apart := false, narrowed := true }
def FnMoveMayUptoSaid : Prop := fnMoveMayUptoRow.holds Try.pinned (OpenSpec.upto fnMoveMaySpec)

/-- 'laws.FnExactPebblesOn', WHERE WHAT IT READS IS OF BULK AT MOST 1048576: true; the input reads as it did. -/
def fnExactPebblesOnUptoRow : OpenClaim := { program := "ytkphaioommhkcaa", sum := "41b6166ec4b251c05d44b0b98bb82209faa2ea423e6b5de8d3ad7da0146e2191", func := "loop.example/reversiblecircuits/laws.FnExactPebblesOn", spec := "fnExactPebblesOn", apart := false, narrowed := true }
def FnExactPebblesOnUptoSaid : Prop := fnExactPebblesOnUptoRow.holds Try.pinned (OpenSpec.upto fnExactPebblesOnSpec)

/-- 'laws.FnMoveDo', WHERE WHAT IT READS IS OF BULK AT MOST 1048576: true; the input reads as it did. -/
def fnMoveDoUptoRow : OpenClaim := { program := "ytkphaioommhkcaa", sum := "41b6166ec4b251c05d44b0b98bb82209faa2ea423e6b5de8d3ad7da0146e2191", func := "loop.example/reversiblecircuits/laws.FnMoveDo", spec := "fnMoveDo", apart := false, narrowed := true }
def FnMoveDoUptoSaid : Prop := fnMoveDoUptoRow.holds Try.pinned (OpenSpec.upto fnMoveDoSpec)

/-- 'laws.FnPebblesOn', WHERE WHAT IT READS IS OF BULK AT MOST 1048576: true; the input reads as it did. -/
def fnPebblesOnUptoRow : OpenClaim := { program := "ytkphaioommhkcaa", sum := "41b6166ec4b251c05d44b0b98bb82209faa2ea423e6b5de8d3ad7da0146e2191", func := "loop.example/reversiblecircuits/laws.FnPebblesOn", spec := "fnPebblesOn", apart := false, narrowed := true }
def FnPebblesOnUptoSaid : Prop := fnPebblesOnUptoRow.holds Try.pinned (OpenSpec.upto fnPebblesOnSpec)

/-- 'laws.FnMovesBack', WHERE WHAT IT READS IS OF BULK AT MOST 1048576: true; the input reads as it did. -/
def fnMovesBackUptoRow : OpenClaim := { program := "ytkphaioommhkcaa", sum := "41b6166ec4b251c05d44b0b98bb82209faa2ea423e6b5de8d3ad7da0146e2191", func := "loop.example/reversiblecircuits/laws.FnMovesBack", spec := "fnMovesBack", unfollowed := true, recurses := true, apart := false, narrowed := true }
def FnMovesBackUptoSaid : Prop := fnMovesBackUptoRow.holds Try.pinned (OpenSpec.upto fnMovesBackSpec)

/-- 'laws.FnExactMovesRun', WHERE WHAT IT READS IS OF BULK AT MOST 1048576: true; the input reads as it did. -/
def fnExactMovesRunUptoRow : OpenClaim := { program := "ytkphaioommhkcaa", sum := "41b6166ec4b251c05d44b0b98bb82209faa2ea423e6b5de8d3ad7da0146e2191", func := "loop.example/reversiblecircuits/laws.FnExactMovesRun", spec := "fnExactMovesRun", apart := false, narrowed := true }
def FnExactMovesRunUptoSaid : Prop := fnExactMovesRunUptoRow.holds Try.pinned (OpenSpec.upto fnExactMovesRunSpec)

/-- 'laws.FnMovesRun', WHERE WHAT IT READS IS OF BULK AT MOST 1048576: true; the input reads as it did. -/
def fnMovesRunUptoRow : OpenClaim := { program := "ytkphaioommhkcaa", sum := "41b6166ec4b251c05d44b0b98bb82209faa2ea423e6b5de8d3ad7da0146e2191", func := "loop.example/reversiblecircuits/laws.FnMovesRun", spec := "fnMovesRun", unfollowed := true, recurses := true, apart := false, narrowed := true }
def FnMovesRunUptoSaid : Prop := fnMovesRunUptoRow.holds Try.pinned (OpenSpec.upto fnMovesRunSpec)

end Rows
end Go.Proofs.Ytkphaioommhkcaa
