/- The contracts on sets that are reached, seen from an elder world. -/
import Derived.Test.YtmppiifkajmbgaaFar2
import Derived.Test.YtmppiifkajmbgaaPlFar2
import Derived.Test.YtmppiifkajmbgaaDrawFar
import Derived.Test.YtmppiifkajmbgaaGuard
import Derived.Test.YtmppiifkajmbgaaWPlain
import Derived.Test.YtmppiifkajmbgaaMovesRun
import Derived.Deep.QuietTactic
import Derived.BigQuiet
namespace Go.Proofs.Ytmppiifkajmbgaa
open Go.RowKit
set_option linter.unusedVariables false

/-- the contracts, seen from an elder world -/
theorem farWithB (b : Int) (w0 w : World) (hB : Below w0.heap.size w0 w) : Calls Try.prog 32 #[.int .i64 b] w fun e w' => e = .returned (.int .i64 (fwI b)) ∧ Below w0.heap.size w0 w' :=
  (farWith b w).mono fun _ _ ⟨he, hb⟩ => ⟨he, hB.trans (hb.mono hB.size)⟩
theorem farWithSB (b : Int) (w0 w : World) (hB : Below w0.heap.size w0 w) : Calls Try.prog 31 #[.int .i64 b] w fun e w' => e = .returned (.int .i64 (fwI b)) ∧ Below w0.heap.size w0 w' :=
  (farWithS b w).mono fun _ _ ⟨he, hb⟩ => ⟨he, hB.trans (hb.mono hB.size)⟩
theorem pebblesForB (b : Int) (w0 w : World) (hB : Below w0.heap.size w0 w) : Calls Try.prog 36 #[.int .i64 b] w fun e w' => e = .returned (.int .i64 (pfI b)) ∧ Below w0.heap.size w0 w' :=
  (pebblesFor b w).mono fun _ _ ⟨he, hb⟩ => ⟨he, hB.trans (hb.mono hB.size)⟩
theorem pebblesForSB (b : Int) (w0 w : World) (hB : Below w0.heap.size w0 w) : Calls Try.prog 35 #[.int .i64 b] w fun e w' => e = .returned (.int .i64 (pfI b)) ∧ Below w0.heap.size w0 w' :=
  (pebblesForS b w).mono fun _ _ ⟨he, hb⟩ => ⟨he, hB.trans (hb.mono hB.size)⟩
theorem leastMovesB (p b : Int) (w0 w : World) (hB : Below w0.heap.size w0 w) : Calls Try.prog 27 #[.int .i64 p, .int .i64 b] w fun e w' => e = .returned (.int .i64 (lmI p b)) ∧ Below w0.heap.size w0 w' :=
  (leastMoves p b w).mono fun _ _ ⟨he, hb⟩ => ⟨he, hB.trans (hb.mono hB.size)⟩
theorem leastMovesSB (p b : Int) (w0 w : World) (hB : Below w0.heap.size w0 w) : Calls Try.prog 26 #[.int .i64 p, .int .i64 b] w fun e w' => e = .returned (.int .i64 (lmI p b)) ∧ Below w0.heap.size w0 w' :=
  (leastMovesS p b w).mono fun _ _ ⟨he, hb⟩ => ⟨he, hB.trans (hb.mono hB.size)⟩
theorem plain_law {p : Int} (h1 : 1 ≤ p) (h8 : p ≤ 8) : ((pmL p).length : Int) = 2 * p - 1 ∧ (mrI p 0 (pmL p)).1 = 2 ^ (p.toNat - 1) ∧ (mrI p 0 (pmL p)).2 = p := by
  have h : p = 1 ∨ p = 2 ∨ p = 3 ∨ p = 4 ∨ p = 5 ∨ p = 6 ∨ p = 7 ∨ p = 8 := by omega
  rcases h with rfl | rfl | rfl | rfl | rfl | rfl | rfl | rfl <;> decide +kernel
end Go.Proofs.Ytmppiifkajmbgaa
