/- Contracts of the functions that test ranges. -/
import Derived.Test.YtkpjlkahebeljaaDoorProg
import Derived.Test.YtkpjlkahebeljaaDoorPl
import Derived.WalkKit
import Derived.WalkLawsBesides
import Derived.WalkSpells
import Derived.BigQuiet
import Derived.Deep.QuietTactic
import Derived.Lib.Hide
namespace Go.Proofs.YtkpjlkahebeljaaDoor
open Go.RowKit
set_option linter.unusedVariables false

theorem within (n lo hi : Int) (w : World) : Calls Tryd.prog 28 #[.int .i64 n, .int .i64 lo, .int .i64 hi] w fun e w' => e = .returned (.bool (inB n lo hi)) ∧ w = w' := by
  go_enter Tryd.func28, Tryd.ntmps28
  go_wp2
  · have h : lo ≤ n := by assumption
    go_ret
    exact ⟨ret_bool (by simp [inB, h]), rfl⟩
  · have h : n < lo := by assumption
    go_ret
    exact ⟨ret_bool (by rw [inB_f (by omega)]), rfl⟩
theorem l1In (n lo hi : Int) (w : World) : Calls Tryd.prog 46 #[.int .i64 n, .int .i64 lo, .int .i64 hi] w fun e w' => e = .returned (.bool (inB n lo hi)) ∧ w = w' := by
  go_enter Tryd.func46, Tryd.ntmps46
  go_wp2
  · have h : lo ≤ n := by assumption
    go_ret
    exact ⟨ret_bool (by simp [inB, h]), rfl⟩
  · have h : n < lo := by assumption
    go_ret
    exact ⟨ret_bool (by rw [inB_f (by omega)]), rfl⟩
theorem linesOk (n : Int) (w : World) : Calls Tryd.prog 47 #[.int .i64 n] w fun e w' => e = .returned (.bool (inB n 1 8)) ∧ w = w' := by
  go_enter Tryd.func47, Tryd.ntmps47
  go_wp2_with (go_at_call 28; refine (within _ _ _ _).mono ?_; rintro e w' ⟨rfl, rfl⟩)
  go_ret
  exact ⟨rfl, rfl⟩
/-- the fixed answer that every drawn law checks -/
theorem alive (w : World) : Calls Tryd.prog 11 #[] w fun e w' => e = .returned (.bool true) ∧ w = w' := by
  go_enter Tryd.func11, Tryd.ntmps11
  go_wp2
  go_ret
  exact ⟨rfl, rfl⟩
end Go.Proofs.YtkpjlkahebeljaaDoor
