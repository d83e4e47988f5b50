/- The walk of the drawn law FnLeastMoves. -/
import Derived.Test.YtmppiifkajmbgaaFar3
namespace Go.Proofs.Ytmppiifkajmbgaa
open Go.RowKit
set_option linter.unusedVariables false

set_option maxHeartbeats 4000000 in
theorem walkFnLeastMoves (w : World) (A : Option Addr) (zs : List Int) (c : Nat) (hc : zs.length ≤ c ∧ c ≤ maxLen) (h : RB w w.heap.size A zs) :
    Calls Try.prog 13 #[.slice A zs.length c] w fun e w' => e = .returned (.bool true) ∧ Below w.heap.size w w' := by
  have hcm := hc.2
  unfold maxLen at hcm
  by_cases hl : 1048576 < zs.length
  · go_enter Try.func13, Try.ntmps13
    go_wp2
    go_ret
    exact ⟨rfl, Below.refl _ _⟩
  go_enter Try.func13, Try.ntmps13
  go_wp2_with fail
  refine (drawLeastMoves A zs c w h hc.1 hc.2).mono ?_
  rintro e w1 ⟨p, b, rfl, hp0, hp1, hb0, hb1, hB⟩
  clear h hc hcm hl
  go_wp2_with fail
  refine (leastMovesB p b w _ hB).mono ?_
  rintro e w2 ⟨rfl, hB2⟩
  go_wp2_with fail
  refine (leastMovesSB p b w _ hB2).mono ?_
  rintro e w3 ⟨rfl, hB3⟩
  go_wp2_with fail
  refine (farWithB (b - 1) w _ hB3).mono ?_
  rintro e w4 ⟨rfl, hB4⟩
  obtain ⟨F0, F1⟩ := fw_bd (b - 1)
  by_cases hok : 1 ≤ p ∧ p ≤ 8 ∧ 0 ≤ b ∧ b ≤ 4
  · obtain ⟨o0, o1, o2, o3⟩ := hok
    rcases lm_law o0 o1 o2 o3 with ⟨k0, k1⟩ | ⟨k0, k1, k2, k3, k4⟩
    · rw [k0]
      clear k0
      generalize fwI (b - 1) = F at F0 F1 k1 ⊢
      go_wp2_with (go_at_call 24; refine (alive _).mono ?_; rintro e w' ⟨rfl, rfl⟩)
      go_ret
      exact ⟨rfl, hB4⟩
    · have k5 : (lmI p b % 2 == 1) = true := by rw [k1]; rfl
      have HK3 := Lib.hid k3
      clear k1 k3
      go_wp2_with fail
      refine (leastMovesB p (b + 1) w _ hB4).mono ?_
      rintro e w5 ⟨rfl, hB5⟩
      rcases HK3.out with ⟨rfl, m1⟩ | ⟨m0, m1, m2⟩
      · rw [m1]
        clear m1 HK3
        generalize fwI (4 - 1) = F at F0 F1 k2 ⊢
        go_wp2
        go_ret
        exact ⟨rfl, hB5⟩
      · clear m0 HK3
        generalize fwI (b - 1) = F at F0 F1 k2 ⊢
        generalize lmI p (b + 1) = M at m1 m2 ⊢
        go_wp2
        go_ret
        exact ⟨rfl, hB5⟩
  · rw [lm_none hok]
    generalize fwI (b - 1) = F at F0 F1 ⊢
    have hw : F < p - 1 ∨ (p - 1 ≤ F ∧ (p < 1 ∨ (1 ≤ p ∧ (8 < p ∨ (p ≤ 8 ∧ (b < 0 ∨ (0 ≤ b ∧ 4 < b))))))) := by omega
    clear hok
    rcases hw with g1 | ⟨g1, g2 | ⟨g2, g3 | ⟨g3, g4 | ⟨g4, g5⟩⟩⟩⟩
    all_goals
      go_wp2_with (go_at_call 24; refine (alive _).mono ?_; rintro e w' ⟨rfl, rfl⟩)
      go_ret
      exact ⟨rfl, hB4⟩
end Go.Proofs.Ytmppiifkajmbgaa
