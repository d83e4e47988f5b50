/- The walk of the drawn law FnPebblesFor. -/
import Derived.Test.YtmppiifkajmbgaaFar3
namespace Go.Proofs.Ytmppiifkajmbgaa
open Go.RowKit
set_option linter.unusedVariables false

set_option maxHeartbeats 4000000 in
theorem walkFnPebblesFor (w : World) (A : Option Addr) (zs : List Int) (c : Nat) (hc : zs.length ≤ c ∧ c ≤ maxLen) (h : RB w w.heap.size A zs) :
    Calls Try.prog 14 #[.slice A zs.length c] w fun e w' => e = .returned (.bool true) ∧ Below w.heap.size w w' := by
  have hcm := hc.2
  unfold maxLen at hcm
  by_cases hl : 1048576 < zs.length
  · go_enter Try.func14, Try.ntmps14
    go_wp2
    go_ret
    exact ⟨rfl, Below.refl _ _⟩
  go_enter Try.func14, Try.ntmps14
  go_wp2_with fail
  refine (drawPebblesFor A zs c w h hc.1 hc.2).mono ?_
  rintro e w1 ⟨p, rfl, hp0, hp1, hB⟩
  clear h hc hcm hl
  obtain ⟨t0, t1, t2, t3, t4⟩ := fw_t
  obtain ⟨q0, q1, q2, q3, q4, q5, q6, q7, q8, q9, q10, q11, q13, q15, q17⟩ := pf_t
  have hp : p = 0 ∨ p = 1 ∨ p = 2 ∨ p = 3 ∨ p = 4 ∨ p = 5 ∨ p = 6 ∨ p = 7 ∨ p = 8 ∨ p = 9 ∨ p = 10 := by omega
  clear hp0 hp1
  rcases hp with rfl | rfl | rfl | rfl | rfl | rfl | rfl | rfl | rfl | rfl | rfl
  all_goals
    go_wp2_with (first
      | (go_at_call 36; refine (pebblesForB _ w _ (by assumption)).mono ?_; rintro e w' ⟨rfl, hb⟩)
      | (go_at_call 35; refine (pebblesForSB _ w _ (by assumption)).mono ?_; rintro e w' ⟨rfl, hb⟩)
      | (go_at_call 32; refine (farWithB _ w _ (by assumption)).mono ?_; rintro e w' ⟨rfl, hb⟩)
      | (go_at_call 24; refine (alive _).mono ?_; rintro e w' ⟨rfl, rfl⟩))
    go_ret
    exact ⟨rfl, by assumption⟩
end Go.Proofs.Ytmppiifkajmbgaa
