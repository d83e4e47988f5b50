/- The walk of the drawn law FnHalfMoves. -/
import Derived.Test.YtmppiifkajmbgaaHalfS
import Derived.Test.YtmppiifkajmbgaaDrawFar
import Derived.Test.YtmppiifkajmbgaaMovesRun
import Derived.Test.YtmppiifkajmbgaaGuard
import Derived.Deep.QuietTactic
import Derived.BigQuiet
import Derived.LoopN
namespace Go.Proofs.Ytmppiifkajmbgaa
open Go.RowKit
set_option linter.unusedVariables false

theorem half_law0 : mrI 1 0 (hvL 0) = (1, 1) := by decide +kernel
theorem half_law1 : mrI 2 0 (hvL 1) = (2, 2) := by decide +kernel
theorem half_law2 : mrI 4 0 (hvL 2) = (8, 3) := by decide +kernel
theorem half_law3 : mrI 8 0 (hvL 3) = (128, 4) := by decide +kernel
theorem movesRunV (p s : Int) (A : Option Addr) (n : Nat) (zs : List Int) (c : Nat) (w : World) (hr : RI w w.heap.size A n zs) (hl : n ≤ 1048576) (x y : Int) (h : mrI p s zs = (x, y)) :
    Calls Try.prog 25 #[.int .i64 p, .int .i64 s, .slice A n c] w fun e w' => e = .returned (.tuple #[.int .i64 x, .int .i64 y]) ∧ w = w' := by
  have := movesRun p s A n zs c w hr hl
  rw [h] at this
  exact this
set_option maxHeartbeats 4000000 in
theorem walkFnHalfMoves (w : World) (A : Option Addr) (zs : List Int) (c : Nat) (hc : zs.length ≤ c ∧ c ≤ maxLen) (h : RB w w.heap.size A zs) :
    Calls Try.prog 5 #[.slice A zs.length c] w fun e w' => e = .returned (.bool true) ∧ Below w.heap.size w w' := by
  have hcm := hc.2
  unfold maxLen at hcm
  by_cases hl : 1048576 < zs.length
  · go_enter Try.func5, Try.ntmps5
    go_wp2
    go_ret
    exact ⟨rfl, Below.refl _ _⟩
  go_enter Try.func5, Try.ntmps5
  go_wp2_with fail
  refine (drawHalfMoves A zs c w h hc.1 hc.2).mono ?_
  rintro e w1 ⟨p, rfl, hp0, hp1, hB⟩
  clear h hc hcm hl
  have hs1 := hB.size
  have e1 : eqL (hvL p) (hvL p) = true := eqL_self _
  go_wp2_with fail
  refine (halfMoves p _).mono ?_
  rintro e w2 ⟨A2, n2, c2, rfl, hO2, hb2⟩
  have hB2 := hB.trans (hb2.mono hs1)
  have hN2 : n2 ≤ 27 := by have := hO2.len; have := hv_len p; omega
  go_wp2_with fail
  refine (halfMovesS p _).mono ?_
  rintro e w3 ⟨A3, n3, c3, rfl, hO3, hb3⟩
  have hs2 := hB2.size
  have hB3 := hB2.trans (hb3.mono hs2)
  have hN3 : n3 ≤ 27 := by have := hO3.len; have := hv_len p; omega
  replace hO2 := hO2.below hb3 (Nat.le_refl _)
  go_wp2_with fail
  refine (sameInts' _ _ _ _ _ _ _ _ _ hO2.reads hO3.reads (by omega) (by omega)).mono ?_
  rintro e w4 ⟨rfl, hb4⟩
  have hs3 := hB3.size
  have hB4 := hB3.trans (hb4.mono hs3)
  replace hO2 := hO2.below hb4 (Nat.le_refl _)
  have HL2 := Lib.hid hO2.len
  clear hO3
  rw [e1]
  by_cases hok : 0 ≤ p ∧ p ≤ 3
  · have h4 : p = 0 ∨ p = 1 ∨ p = 2 ∨ p = 3 := by omega
    have hR := hO2.reads
    clear hO2 hp0 hp1 hok
    rcases h4 with rfl | rfl | rfl | rfl
    · obtain rfl : n2 = 1 := HL2.out.symm.trans (by decide)
      go_wp2_with (go_at_call 25; refine (movesRunV 1 0 A2 1 _ c2 _ hR (by omega) _ _ half_law0).mono ?_; rintro e w' ⟨rfl, rfl⟩)
      refine wp_loop_rounds 1 ?_
      rw [rounds_succ]
      go_wp2
      go_ret
      exact ⟨rfl, hB4⟩
    · obtain rfl : n2 = 3 := HL2.out.symm.trans (by decide)
      go_wp2_with (go_at_call 25; refine (movesRunV 2 0 A2 3 _ c2 _ hR (by omega) _ _ half_law1).mono ?_; rintro e w' ⟨rfl, rfl⟩)
      refine wp_loop_rounds 2 ?_
      rw [rounds_succ]
      go_wp2
      rw [rounds_succ]
      go_wp2
      go_ret
      exact ⟨rfl, hB4⟩
    · obtain rfl : n2 = 9 := HL2.out.symm.trans (by decide)
      go_wp2_with (go_at_call 25; refine (movesRunV 4 0 A2 9 _ c2 _ hR (by omega) _ _ half_law2).mono ?_; rintro e w' ⟨rfl, rfl⟩)
      refine wp_loop_rounds 3 ?_
      rw [rounds_succ]
      go_wp2
      rw [rounds_succ]
      go_wp2
      rw [rounds_succ]
      go_wp2
      go_ret
      exact ⟨rfl, hB4⟩
    · obtain rfl : n2 = 27 := HL2.out.symm.trans (by decide)
      go_wp2_with (go_at_call 25; refine (movesRunV 8 0 A2 27 _ c2 _ hR (by omega) _ _ half_law3).mono ?_; rintro e w' ⟨rfl, rfl⟩)
      refine wp_loop_rounds 4 ?_
      rw [rounds_succ]
      go_wp2
      rw [rounds_succ]
      go_wp2
      rw [rounds_succ]
      go_wp2
      rw [rounds_succ]
      go_wp2
      go_ret
      exact ⟨rfl, hB4⟩
  · have hnil : hvL p = [] := by unfold hvL; rw [if_neg (by simp [inB]; omega)]
    have hz : n2 = 0 := by have := HL2.out; rw [hnil] at this; exact this.symm
    subst hz
    have ho : p < 0 ∨ (0 ≤ p ∧ 3 < p) := by omega
    clear hO2 hok hnil
    rcases ho with ho | ⟨ho, ho2⟩
    all_goals
      go_wp2_with (go_at_call 24; refine (alive _).mono ?_; rintro e w' ⟨rfl, rfl⟩)
      go_ret
      exact ⟨rfl, hB4⟩
end Go.Proofs.Ytmppiifkajmbgaa
