/- Contracts of the functions that test ranges. -/
import Derived.Test.YtmppiifkajmbgaaProg
import Derived.Test.YtmppiifkajmbgaaPl
import Derived.WalkKit
import Derived.WalkLawsBesides
import Derived.WalkSpells
import Derived.BigQuiet
import Derived.Deep.QuietTactic
import Derived.Lib.Hide
namespace Go.Proofs.Ytmppiifkajmbgaa
open Go.RowKit
set_option linter.unusedVariables false

theorem within (n lo hi : Int) (w : World) : Calls Try.prog 44 #[.int .i64 n, .int .i64 lo, .int .i64 hi] w fun e w' => e = .returned (.bool (inB n lo hi)) ∧ w = w' := by
  go_enter Try.func44, Try.ntmps44
  go_wp2
  · have h : lo ≤ n := by assumption
    go_ret
    exact ⟨ret_bool (by simp [inB, h]), rfl⟩
  · have h : n < lo := by assumption
    go_ret
    exact ⟨ret_bool (by rw [inB_f (by omega)]), rfl⟩
theorem l1In (n lo hi : Int) (w : World) : Calls Try.prog 40 #[.int .i64 n, .int .i64 lo, .int .i64 hi] w fun e w' => e = .returned (.bool (inB n lo hi)) ∧ w = w' := by
  go_enter Try.func40, Try.ntmps40
  go_wp2
  · have h : lo ≤ n := by assumption
    go_ret
    exact ⟨ret_bool (by simp [inB, h]), rfl⟩
  · have h : n < lo := by assumption
    go_ret
    exact ⟨ret_bool (by rw [inB_f (by omega)]), rfl⟩
theorem placesOk (n : Int) (w : World) : Calls Try.prog 41 #[.int .i64 n] w fun e w' => e = .returned (.bool (inB n 1 8)) ∧ w = w' := by
  go_enter Try.func41, Try.ntmps41
  go_wp2_with (go_at_call 44; refine (within _ _ _ _).mono ?_; rintro e w' ⟨rfl, rfl⟩)
  go_ret
  exact ⟨rfl, rfl⟩
theorem linesOk (n : Int) (w : World) : Calls Try.prog 64 #[.int .i64 n] w fun e w' => e = .returned (.bool (inB n 1 8)) ∧ w = w' := by
  go_enter Try.func64, Try.ntmps64
  go_wp2_with (go_at_call 44; refine (within _ _ _ _).mono ?_; rintro e w' ⟨rfl, rfl⟩)
  go_ret
  exact ⟨rfl, rfl⟩
theorem l1Bit (s k : Int) (w : World) (h0 : 0 ≤ s) (h1 : s < 4611686018427387904) (hk : 0 ≤ k) (hk' : k < 8) : Calls Try.prog 57 #[.int .i64 s, .int .i64 k] w fun e w' => e = .returned (.int .i64 (bitI s k.toNat)) ∧ w = w' := by
  rcases mm8 hk hk' with rfl | rfl | rfl | rfl | rfl | rfl | rfl | rfl
  all_goals
    clear hk hk'
    go_enter Try.func57, Try.ntmps57
    go_wp2
    go_ret
    exact ⟨ret_int (by simp [bitI]), rfl⟩
/-- the fixed answer that every drawn law checks -/
theorem alive (w : World) : Calls Try.prog 24 #[] w fun e w' => e = .returned (.bool true) ∧ w = w' := by
  go_enter Try.func24, Try.ntmps24
  go_wp2
  go_ret
  exact ⟨rfl, rfl⟩
end Go.Proofs.Ytmppiifkajmbgaa
