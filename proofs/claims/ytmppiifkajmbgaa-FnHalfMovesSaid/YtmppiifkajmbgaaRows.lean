/-
  No cell of these rows narrows 'for every input' (looked for: loops, veiled, ifaces, maps, wideKeys, modest, calm, conditions, laid).
  DERIVED. THE GIVEN ROWS OF THIS SEAT. 12 by the template 'for every input the law returns true; each argument reads behind the call as it read before'; 0 by the template 'total and deterministic' (their statements: YtmppiifkajmbgaaTotals.lean).
  GIVEN WITH THE SEED: the statements are not yours to turn. If you find one false, say at which input.
  Laid BY PROGRAM, IN A SANDBOX (cutbox-rows.mjs): the forced cells as the released guide's own fill.sh prints them over the translation 660c848324840d82… (all of the seat's roots in one cut). By AI agents, Wed Nov 11 2026. No macro, syntax, notation, axiom, sorry.
-/
import Derived.Test.YtmppiifkajmbgaaChecked
import GoSem.Claim
import GoSem.ClaimJoined
import GoSem.ClaimMapViews
import Derived.JoinedTies
import Derived.KernelRfl
namespace Go.Proofs.Ytmppiifkajmbgaa
/- THE CELL 'sum', in the pinned program and in every row, IS THE sha256 OF THE DUMP (.gsa) THAT YtmppiifkajmbgaaProg.lean LOADS. Nothing in Lean hashes anything: it is a label: what it is worth is what the hold of that sum in a sandbox is worth. -/
noncomputable def Try.pinned : Pinned := { name := "ytmppiifkajmbgaa", sum := "660c848324840d82a41599b0b49230f418bb485ad9e3a3233ad7b103dda25111", checked := Try.checked }
namespace Rows
def none {H : Type} : Left H := { results := [], args := [] }

/-- 'laws.FnExactPlainMoves': WHATEVER THE INPUT: true; the input reads as it did. -/
def fnExactPlainMovesSpec : ChangeSpec := { name := "fnExactPlainMoves", fn := fun _ => fun
  | [d] => { results := [.lit (.bool true)], args := [d] }
  | _ => none }
def fnExactPlainMovesRow : OpenClaim := { program := "ytmppiifkajmbgaa", sum := "660c848324840d82a41599b0b49230f418bb485ad9e3a3233ad7b103dda25111", func := "loop.example/reversiblecircuits/laws.FnExactPlainMoves", spec := "fnExactPlainMoves", unfollowed := true, recurses := true, apart := false }
def FnExactPlainMovesSaid : Prop := fnExactPlainMovesRow.holds Try.pinned (OpenSpec.ofChange fnExactPlainMovesSpec)

/-- ITS FALSE NEIGHBOUR: 'it returns false'. Refute it at one input. -/
def fnExactPlainMovesWrong : ChangeSpec := { name := "fnExactPlainMoves", fn := fun _ => fun
  | [d] => { results := [.lit (.bool false)], args := [d] }
  | _ => none }
def FnExactPlainMovesWrongFalsely : Prop := fnExactPlainMovesRow.holds Try.pinned (OpenSpec.ofChange fnExactPlainMovesWrong)

/-- 'laws.FnExactHalfMoves': WHATEVER THE INPUT: true; the input reads as it did. -/
def fnExactHalfMovesSpec : ChangeSpec := { name := "fnExactHalfMoves", fn := fun _ => fun
  | [d] => { results := [.lit (.bool true)], args := [d] }
  | _ => none }
def fnExactHalfMovesRow : OpenClaim := { program := "ytmppiifkajmbgaa", sum := "660c848324840d82a41599b0b49230f418bb485ad9e3a3233ad7b103dda25111", func := "loop.example/reversiblecircuits/laws.FnExactHalfMoves", spec := "fnExactHalfMoves", unfollowed := true, recurses := true, apart := false }
def FnExactHalfMovesSaid : Prop := fnExactHalfMovesRow.holds Try.pinned (OpenSpec.ofChange fnExactHalfMovesSpec)

/-- ITS FALSE NEIGHBOUR: 'it returns false'. Refute it at one input. -/
def fnExactHalfMovesWrong : ChangeSpec := { name := "fnExactHalfMoves", fn := fun _ => fun
  | [d] => { results := [.lit (.bool false)], args := [d] }
  | _ => none }
def FnExactHalfMovesWrongFalsely : Prop := fnExactHalfMovesRow.holds Try.pinned (OpenSpec.ofChange fnExactHalfMovesWrong)

/-- 'laws.FnHalfMoves': WHATEVER THE INPUT: true; the input reads as it did. -/
def fnHalfMovesSpec : ChangeSpec := { name := "fnHalfMoves", fn := fun _ => fun
  | [d] => { results := [.lit (.bool true)], args := [d] }
  | _ => none }
def fnHalfMovesRow : OpenClaim := { program := "ytmppiifkajmbgaa", sum := "660c848324840d82a41599b0b49230f418bb485ad9e3a3233ad7b103dda25111", func := "loop.example/reversiblecircuits/laws.FnHalfMoves", spec := "fnHalfMoves", unfollowed := true, recurses := true, apart := false }
def FnHalfMovesSaid : Prop := fnHalfMovesRow.holds Try.pinned (OpenSpec.ofChange fnHalfMovesSpec)

/-- ITS FALSE NEIGHBOUR: 'it returns false'. Refute it at one input. -/
def fnHalfMovesWrong : ChangeSpec := { name := "fnHalfMoves", fn := fun _ => fun
  | [d] => { results := [.lit (.bool false)], args := [d] }
  | _ => none }
def FnHalfMovesWrongFalsely : Prop := fnHalfMovesRow.holds Try.pinned (OpenSpec.ofChange fnHalfMovesWrong)

/-- 'laws.FnExactLeastMoves': WHATEVER THE INPUT: true; the input reads as it did. -/
def fnExactLeastMovesSpec : ChangeSpec := { name := "fnExactLeastMoves", fn := fun _ => fun
  | [d1, d2] => { results := [.lit (.bool true)], args := [d1, d2] }
  | _ => none }
def fnExactLeastMovesRow : OpenClaim := { program := "ytmppiifkajmbgaa", sum := "660c848324840d82a41599b0b49230f418bb485ad9e3a3233ad7b103dda25111", func := "loop.example/reversiblecircuits/laws.FnExactLeastMoves", spec := "fnExactLeastMoves", apart := false }
def FnExactLeastMovesSaid : Prop := fnExactLeastMovesRow.holds Try.pinned (OpenSpec.ofChange fnExactLeastMovesSpec)

/-- ITS FALSE NEIGHBOUR: 'it returns false'. Refute it at one input. -/
def fnExactLeastMovesWrong : ChangeSpec := { name := "fnExactLeastMoves", fn := fun _ => fun
  | [d1, d2] => { results := [.lit (.bool false)], args := [d1, d2] }
  | _ => none }
def FnExactLeastMovesWrongFalsely : Prop := fnExactLeastMovesRow.holds Try.pinned (OpenSpec.ofChange fnExactLeastMovesWrong)

/-- 'laws.FnExactSetsWith': WHATEVER THE INPUT: true; the input reads as it did. -/
def fnExactSetsWithSpec : ChangeSpec := { name := "fnExactSetsWith", fn := fun _ => fun
  | [d1, d2] => { results := [.lit (.bool true)], args := [d1, d2] }
  | _ => none }
def fnExactSetsWithRow : OpenClaim := { program := "ytmppiifkajmbgaa", sum := "660c848324840d82a41599b0b49230f418bb485ad9e3a3233ad7b103dda25111", func := "loop.example/reversiblecircuits/laws.FnExactSetsWith", spec := "fnExactSetsWith", apart := false }
def FnExactSetsWithSaid : Prop := fnExactSetsWithRow.holds Try.pinned (OpenSpec.ofChange fnExactSetsWithSpec)

/-- ITS FALSE NEIGHBOUR: 'it returns false'. Refute it at one input. -/
def fnExactSetsWithWrong : ChangeSpec := { name := "fnExactSetsWith", fn := fun _ => fun
  | [d1, d2] => { results := [.lit (.bool false)], args := [d1, d2] }
  | _ => none }
def FnExactSetsWithWrongFalsely : Prop := fnExactSetsWithRow.holds Try.pinned (OpenSpec.ofChange fnExactSetsWithWrong)

/-- 'laws.FnPlainMoves': WHATEVER THE INPUT: true; the input reads as it did. -/
def fnPlainMovesSpec : ChangeSpec := { name := "fnPlainMoves", fn := fun _ => fun
  | [d] => { results := [.lit (.bool true)], args := [d] }
  | _ => none }
def fnPlainMovesRow : OpenClaim := { program := "ytmppiifkajmbgaa", sum := "660c848324840d82a41599b0b49230f418bb485ad9e3a3233ad7b103dda25111", func := "loop.example/reversiblecircuits/laws.FnPlainMoves", spec := "fnPlainMoves", unfollowed := true, recurses := true, apart := false }
def FnPlainMovesSaid : Prop := fnPlainMovesRow.holds Try.pinned (OpenSpec.ofChange fnPlainMovesSpec)

/-- ITS FALSE NEIGHBOUR: 'it returns false'. Refute it at one input. -/
def fnPlainMovesWrong : ChangeSpec := { name := "fnPlainMoves", fn := fun _ => fun
  | [d] => { results := [.lit (.bool false)], args := [d] }
  | _ => none }
def FnPlainMovesWrongFalsely : Prop := fnPlainMovesRow.holds Try.pinned (OpenSpec.ofChange fnPlainMovesWrong)

/-- 'laws.FnExactFarWith': WHATEVER THE INPUT: true; the input reads as it did. -/
def fnExactFarWithSpec : ChangeSpec := { name := "fnExactFarWith", fn := fun _ => fun
  | [d] => { results := [.lit (.bool true)], args := [d] }
  | _ => none }
def fnExactFarWithRow : OpenClaim := { program := "ytmppiifkajmbgaa", sum := "660c848324840d82a41599b0b49230f418bb485ad9e3a3233ad7b103dda25111", func := "loop.example/reversiblecircuits/laws.FnExactFarWith", spec := "fnExactFarWith", apart := false }
def FnExactFarWithSaid : Prop := fnExactFarWithRow.holds Try.pinned (OpenSpec.ofChange fnExactFarWithSpec)

/-- ITS FALSE NEIGHBOUR: 'it returns false'. Refute it at one input. -/
def fnExactFarWithWrong : ChangeSpec := { name := "fnExactFarWith", fn := fun _ => fun
  | [d] => { results := [.lit (.bool false)], args := [d] }
  | _ => none }
def FnExactFarWithWrongFalsely : Prop := fnExactFarWithRow.holds Try.pinned (OpenSpec.ofChange fnExactFarWithWrong)

/-- 'laws.FnSetsWith': WHATEVER THE INPUT: true; the input reads as it did. -/
def fnSetsWithSpec : ChangeSpec := { name := "fnSetsWith", fn := fun _ => fun
  | [d] => { results := [.lit (.bool true)], args := [d] }
  | _ => none }
def fnSetsWithRow : OpenClaim := { program := "ytmppiifkajmbgaa", sum := "660c848324840d82a41599b0b49230f418bb485ad9e3a3233ad7b103dda25111", func := "loop.example/reversiblecircuits/laws.FnSetsWith", spec := "fnSetsWith", apart := false }
def FnSetsWithSaid : Prop := fnSetsWithRow.holds Try.pinned (OpenSpec.ofChange fnSetsWithSpec)

/-- ITS FALSE NEIGHBOUR: 'it returns false'. Refute it at one input. -/
def fnSetsWithWrong : ChangeSpec := { name := "fnSetsWith", fn := fun _ => fun
  | [d] => { results := [.lit (.bool false)], args := [d] }
  | _ => none }
def FnSetsWithWrongFalsely : Prop := fnSetsWithRow.holds Try.pinned (OpenSpec.ofChange fnSetsWithWrong)

/-- 'laws.FnExactPebblesFor': WHATEVER THE INPUT: true; the input reads as it did. -/
def fnExactPebblesForSpec : ChangeSpec := { name := "fnExactPebblesFor", fn := fun _ => fun
  | [d] => { results := [.lit (.bool true)], args := [d] }
  | _ => none }
def fnExactPebblesForRow : OpenClaim := { program := "ytmppiifkajmbgaa", sum := "660c848324840d82a41599b0b49230f418bb485ad9e3a3233ad7b103dda25111", func := "loop.example/reversiblecircuits/laws.FnExactPebblesFor", spec := "fnExactPebblesFor", apart := false }
def FnExactPebblesForSaid : Prop := fnExactPebblesForRow.holds Try.pinned (OpenSpec.ofChange fnExactPebblesForSpec)

/-- ITS FALSE NEIGHBOUR: 'it returns false'. Refute it at one input. -/
def fnExactPebblesForWrong : ChangeSpec := { name := "fnExactPebblesFor", fn := fun _ => fun
  | [d] => { results := [.lit (.bool false)], args := [d] }
  | _ => none }
def FnExactPebblesForWrongFalsely : Prop := fnExactPebblesForRow.holds Try.pinned (OpenSpec.ofChange fnExactPebblesForWrong)

/-- 'laws.FnFarWith': WHATEVER THE INPUT: true; the input reads as it did. -/
def fnFarWithSpec : ChangeSpec := { name := "fnFarWith", fn := fun _ => fun
  | [d] => { results := [.lit (.bool true)], args := [d] }
  | _ => none }
def fnFarWithRow : OpenClaim := { program := "ytmppiifkajmbgaa", sum := "660c848324840d82a41599b0b49230f418bb485ad9e3a3233ad7b103dda25111", func := "loop.example/reversiblecircuits/laws.FnFarWith", spec := "fnFarWith", apart := false }
def FnFarWithSaid : Prop := fnFarWithRow.holds Try.pinned (OpenSpec.ofChange fnFarWithSpec)

/-- ITS FALSE NEIGHBOUR: 'it returns false'. Refute it at one input. -/
def fnFarWithWrong : ChangeSpec := { name := "fnFarWith", fn := fun _ => fun
  | [d] => { results := [.lit (.bool false)], args := [d] }
  | _ => none }
def FnFarWithWrongFalsely : Prop := fnFarWithRow.holds Try.pinned (OpenSpec.ofChange fnFarWithWrong)

/-- 'laws.FnLeastMoves': WHATEVER THE INPUT: true; the input reads as it did. -/
def fnLeastMovesSpec : ChangeSpec := { name := "fnLeastMoves", fn := fun _ => fun
  | [d] => { results := [.lit (.bool true)], args := [d] }
  | _ => none }
def fnLeastMovesRow : OpenClaim := { program := "ytmppiifkajmbgaa", sum := "660c848324840d82a41599b0b49230f418bb485ad9e3a3233ad7b103dda25111", func := "loop.example/reversiblecircuits/laws.FnLeastMoves", spec := "fnLeastMoves", apart := false }
def FnLeastMovesSaid : Prop := fnLeastMovesRow.holds Try.pinned (OpenSpec.ofChange fnLeastMovesSpec)

/-- ITS FALSE NEIGHBOUR: 'it returns false'. Refute it at one input. -/
def fnLeastMovesWrong : ChangeSpec := { name := "fnLeastMoves", fn := fun _ => fun
  | [d] => { results := [.lit (.bool false)], args := [d] }
  | _ => none }
def FnLeastMovesWrongFalsely : Prop := fnLeastMovesRow.holds Try.pinned (OpenSpec.ofChange fnLeastMovesWrong)

/-- 'laws.FnPebblesFor': WHATEVER THE INPUT: true; the input reads as it did. -/
def fnPebblesForSpec : ChangeSpec := { name := "fnPebblesFor", fn := fun _ => fun
  | [d] => { results := [.lit (.bool true)], args := [d] }
  | _ => none }
def fnPebblesForRow : OpenClaim := { program := "ytmppiifkajmbgaa", sum := "660c848324840d82a41599b0b49230f418bb485ad9e3a3233ad7b103dda25111", func := "loop.example/reversiblecircuits/laws.FnPebblesFor", spec := "fnPebblesFor", apart := false }
def FnPebblesForSaid : Prop := fnPebblesForRow.holds Try.pinned (OpenSpec.ofChange fnPebblesForSpec)

/-- ITS FALSE NEIGHBOUR: 'it returns false'. Refute it at one input. -/
def fnPebblesForWrong : ChangeSpec := { name := "fnPebblesFor", fn := fun _ => fun
  | [d] => { results := [.lit (.bool false)], args := [d] }
  | _ => none }
def FnPebblesForWrongFalsely : Prop := fnPebblesForRow.holds Try.pinned (OpenSpec.ofChange fnPebblesForWrong)

/- THE SECOND FORM. 'bulk': how many values and letters a reading holds, each counted each time it is reached (what is shared counts as often as it is met; a slice's spare places count too). A statement '..UptoSaid' is the law's where the arguments, and the package variables that the reading takes, are together of bulk at most 1048576: NARROWER than '..Said'. Prove '..Said' where nothing that the law and all that it calls make is longer than what came in: it says more and counts as full. Else prove '..UptoSaid'. A law counts once. -/
mutual
def uptoBulk {H : Type} : DataW H → Nat
  | .lit (.string bytes) => bytes.length + 1
  | .lit _ => 1
  | .nil => 1
  | .ptr d => uptoBulk d + 1
  | .slice elems spare => uptoBulkAll elems + uptoBulkAll spare + 1
  | .agg parts => uptoBulkAll parts + 1
  | .iface _ d => uptoBulk d + 1
  | .map entries => uptoBulkEntries entries + 1
  | .held _ => 1
def uptoBulkAll {H : Type} : List (DataW H) → Nat
  | [] => 0
  | d :: r => uptoBulk d + uptoBulkAll r
def uptoBulkEntries {H : Type} : List (Lit × DataW H) → Nat
  | [] => 0
  | x :: r => uptoBulkEntry x + uptoBulkEntries r
def uptoBulkEntry {H : Type} : Lit × DataW H → Nat
  | (.string bytes, d) => bytes.length + uptoBulk d + 1
  | (_, d) => uptoBulk d + 1
 end
def uptoSmall : (H : Type) → List (DataW H) → Bool := fun _ ds => decide (uptoBulkAll ds ≤ 1048576)
def OpenSpec.upto (s : _root_.Go.ChangeSpec) : _root_.Go.OpenSpec := { _root_.Go.OpenSpec.ofChange s with cond := some uptoSmall }

/-- 'laws.FnExactPlainMoves', WHERE WHAT IT READS IS OF BULK AT MOST 1048576: true; the input reads as it did. -/
def fnExactPlainMovesUptoRow : OpenClaim := { program := "ytmppiifkajmbgaa", sum := "660c848324840d82a41599b0b49230f418bb485ad9e3a3233ad7b103dda25111", func := "loop.example/reversiblecircuits/laws.FnExactPlainMoves", spec := "fnExactPlainMoves", unfollowed := true, recurses := true, apart := false, narrowed := true }
def FnExactPlainMovesUptoSaid : Prop := fnExactPlainMovesUptoRow.holds Try.pinned (OpenSpec.upto fnExactPlainMovesSpec)

/-- 'laws.FnExactHalfMoves', WHERE WHAT IT READS IS OF BULK AT MOST 1048576: true; the input reads as it did. -/
def fnExactHalfMovesUptoRow : OpenClaim := { program := "ytmppiifkajmbgaa", sum := "660c848324840d82a41599b0b49230f418bb485ad9e3a3233ad7b103dda25111", func := "loop.example/reversiblecircuits/laws.FnExactHalfMoves", spec := "fnExactHalfMoves", unfollowed := true, recurses := true, apart := false, narrowed := true }
def FnExactHalfMovesUptoSaid : Prop := fnExactHalfMovesUptoRow.holds Try.pinned (OpenSpec.upto fnExactHalfMovesSpec)

/-- 'laws.FnHalfMoves', WHERE WHAT IT READS IS OF BULK AT MOST 1048576: true; the input reads as it did. -/
def fnHalfMovesUptoRow : OpenClaim := { program := "ytmppiifkajmbgaa", sum := "660c848324840d82a41599b0b49230f418bb485ad9e3a3233ad7b103dda25111", func := "loop.example/reversiblecircuits/laws.FnHalfMoves", spec := "fnHalfMoves", unfollowed := true, recurses := true, apart := false, narrowed := true }
def FnHalfMovesUptoSaid : Prop := fnHalfMovesUptoRow.holds Try.pinned (OpenSpec.upto fnHalfMovesSpec)

/-- 'laws.FnExactLeastMoves', WHERE WHAT IT READS IS OF BULK AT MOST 1048576: true; the input reads as it did. -/
def fnExactLeastMovesUptoRow : OpenClaim := { program := "ytmppiifkajmbgaa", sum := "660c848324840d82a41599b0b49230f418bb485ad9e3a3233ad7b103dda25111", func := "loop.example/reversiblecircuits/laws.FnExactLeastMoves", spec := "fnExactLeastMoves", apart := false, narrowed := true }
def FnExactLeastMovesUptoSaid : Prop := fnExactLeastMovesUptoRow.holds Try.pinned (OpenSpec.upto fnExactLeastMovesSpec)

/-- 'laws.FnExactSetsWith', WHERE WHAT IT READS IS OF BULK AT MOST 1048576: true; the input reads as it did. -/
def fnExactSetsWithUptoRow : OpenClaim := { program := "ytmppiifkajmbgaa", sum := "660c848324840d82a41599b0b49230f418bb485ad9e3a3233ad7b103dda25111", func := "loop.example/reversiblecircuits/laws.FnExactSetsWith", spec := "fnExactSetsWith", apart := false, narrowed := true }
def FnExactSetsWithUptoSaid : Prop := fnExactSetsWithUptoRow.holds Try.pinned (OpenSpec.upto fnExactSetsWithSpec)

/-- 'laws.FnPlainMoves', WHERE WHAT IT READS IS OF BULK AT MOST 1048576: true; the input reads as it did. -/
def fnPlainMovesUptoRow : OpenClaim := { program := "ytmppiifkajmbgaa", sum := "660c848324840d82a41599b0b49230f418bb485ad9e3a3233ad7b103dda25111", func := "loop.example/reversiblecircuits/laws.FnPlainMoves", spec := "fnPlainMoves", unfollowed := true, recurses := true, apart := false, narrowed := true }
def FnPlainMovesUptoSaid : Prop := fnPlainMovesUptoRow.holds Try.pinned (OpenSpec.upto fnPlainMovesSpec)

/-- 'laws.FnExactFarWith', WHERE WHAT IT READS IS OF BULK AT MOST 1048576: true; the input reads as it did. -/
def fnExactFarWithUptoRow : OpenClaim := { program := "ytmppiifkajmbgaa", sum := "660c848324840d82a41599b0b49230f418bb485ad9e3a3233ad7b103dda25111", func := "loop.example/reversiblecircuits/laws.FnExactFarWith", spec := "fnExactFarWith", apart := false, narrowed := true }
def FnExactFarWithUptoSaid : Prop := fnExactFarWithUptoRow.holds Try.pinned (OpenSpec.upto fnExactFarWithSpec)

/-- 'laws.FnSetsWith', WHERE WHAT IT READS IS OF BULK AT MOST 1048576: true; the input reads as it did. -/
def fnSetsWithUptoRow : OpenClaim := { program := "ytmppiifkajmbgaa", sum := "660c848324840d82a41599b0b49230f418bb485ad9e3a3233ad7b103dda25111", func := "loop.example/reversiblecircuits/laws.FnSetsWith", spec := "fnSetsWith", apart := false, narrowed := true }
def FnSetsWithUptoSaid : Prop := fnSetsWithUptoRow.holds Try.pinned (OpenSpec.upto fnSetsWithSpec)

/-- 'laws.FnExactPebblesFor', WHERE WHAT IT READS IS OF BULK AT MOST 1048576: true; the input reads as it did. -/
def fnExactPebblesForUptoRow : OpenClaim := { program := "ytmppiifkajmbgaa", sum := "660c848324840d82a41599b0b49230f418bb485ad9e3a3233ad7b103dda25111", func := "loop.example/reversiblecircuits/laws.FnExactPebblesFor", spec := "fnExactPebblesFor", apart := false, narrowed := true }
def FnExactPebblesForUptoSaid : Prop := fnExactPebblesForUptoRow.holds Try.pinned (OpenSpec.upto fnExactPebblesForSpec)

/-- 'laws.FnFarWith', WHERE WHAT IT READS IS OF BULK AT MOST 1048576: true; the input reads as it did. -/
def fnFarWithUptoRow : OpenClaim := { program := "ytmppiifkajmbgaa", sum := "660c848324840d82a41599b0b49230f418bb485ad9e3a3233ad7b103dda25111", func := "loop.example/reversiblecircuits/laws.FnFarWith", spec := "fnFarWith", apart := false, narrowed := true }
def FnFarWithUptoSaid : Prop := fnFarWithUptoRow.holds Try.pinned (OpenSpec.upto fnFarWithSpec)

/-- 'laws.FnLeastMoves', WHERE WHAT IT READS IS OF BULK AT MOST 1048576: true; the input reads as it did. -/
def fnLeastMovesUptoRow : OpenClaim := { program := "ytmppiifkajmbgaa", sum := "660c848324840d82a41599b0b49230f418bb485ad9e3a3233ad7b103dda25111", func := "loop.example/reversiblecircuits/laws.FnLeastMoves", spec := "fnLeastMoves", apart := false, narrowed := true }
def FnLeastMovesUptoSaid : Prop := fnLeastMovesUptoRow.holds Try.pinned (OpenSpec.upto fnLeastMovesSpec)

/-- 'laws.FnPebblesFor', WHERE WHAT IT READS IS OF BULK AT MOST 1048576: true; the input reads as it did. -/
def fnPebblesForUptoRow : OpenClaim := { program := "ytmppiifkajmbgaa", sum := "660c848324840d82a41599b0b49230f418bb485ad9e3a3233ad7b103dda25111", func := "loop.example/reversiblecircuits/laws.FnPebblesFor", spec := "fnPebblesFor", apart := false, narrowed := true }
def FnPebblesForUptoSaid : Prop := fnPebblesForUptoRow.holds Try.pinned (OpenSpec.upto fnPebblesForSpec)

end Rows
end Go.Proofs.Ytmppiifkajmbgaa
