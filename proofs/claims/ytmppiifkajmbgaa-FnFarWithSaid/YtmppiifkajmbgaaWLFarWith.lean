/- The walk of the drawn law FnFarWith. -/
import Derived.Test.YtmppiifkajmbgaaFar3
namespace Go.Proofs.Ytmppiifkajmbgaa
open Go.RowKit
set_option linter.unusedVariables false

set_option maxHeartbeats 4000000 in
theorem walkFnFarWith (w : World) (A : Option Addr) (zs : List Int) (c : Nat) (hc : zs.length ≤ c ∧ c ≤ maxLen) (h : RB w w.heap.size A zs) :
    Calls Try.prog 12 #[.slice A zs.length c] w fun e w' => e = .returned (.bool true) ∧ Below w.heap.size w w' := by
  have hcm := hc.2
  unfold maxLen at hcm
  by_cases hl : 1048576 < zs.length
  · go_enter Try.func12, Try.ntmps12
    go_wp2
    go_ret
    exact ⟨rfl, Below.refl _ _⟩
  go_enter Try.func12, Try.ntmps12
  go_wp2_with fail
  refine (drawFarWith A zs c w h hc.1 hc.2).mono ?_
  rintro e w1 ⟨b, rfl, hb0, hb1, hB⟩
  clear h hc hcm hl
  cases hok : inB b 0 4
  · have hv : fwI b = -1 := by simp [fwI, hok]
    have ho : b < 0 ∨ 4 < b := by
      have : ¬ (0 ≤ b ∧ b ≤ 4) := fun h => by rw [inB_t h.1 h.2] at hok; cases hok
      omega
    clear hok
    rcases ho with ho | ho
    all_goals
      go_wp2_with fail
      refine (farWithB b w _ hB).mono ?_
      rintro e w2 ⟨rfl, hB2⟩
      rw [hv]
      go_wp2_with fail
      refine (farWithSB b w _ hB2).mono ?_
      rintro e w3 ⟨rfl, hB3⟩
      rw [hv]
      go_wp2_with (go_at_call 24; refine (alive _).mono ?_; rintro e w' ⟨rfl, rfl⟩)
      go_ret
      exact ⟨rfl, hB3⟩
  · obtain ⟨t0, t1, t2, t3, t4⟩ := fw_t
    rcases five hok with rfl | rfl | rfl | rfl | rfl
    all_goals
      clear hok
      go_wp2_with fail
      refine (farWithB _ w _ hB).mono ?_
      rintro e w2 ⟨rfl, hB2⟩
      go_wp2_with fail
      refine (farWithSB _ w _ hB2).mono ?_
      rintro e w3 ⟨rfl, hB3⟩
      go_wp2
      go_ret
      exact ⟨rfl, hB3⟩
end Go.Proofs.Ytmppiifkajmbgaa
