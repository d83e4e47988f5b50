/- The walk of the drawn law FnPlainMoves. -/
import Derived.Test.YtmppiifkajmbgaaFar3
namespace Go.Proofs.Ytmppiifkajmbgaa
open Go.RowKit
set_option linter.unusedVariables false

set_option maxHeartbeats 4000000 in
theorem walkFnPlainMoves (w : World) (A : Option Addr) (zs : List Int) (c : Nat) (hc : zs.length ≤ c ∧ c ≤ maxLen) (h : RB w w.heap.size A zs) :
    Calls Try.prog 8 #[.slice A zs.length c] w fun e w' => e = .returned (.bool true) ∧ Below w.heap.size w w' := by
  have hcm := hc.2
  unfold maxLen at hcm
  by_cases hl : 1048576 < zs.length
  · go_enter Try.func8, Try.ntmps8
    go_wp2
    go_ret
    exact ⟨rfl, Below.refl _ _⟩
  go_enter Try.func8, Try.ntmps8
  go_wp2_with fail
  refine (drawPlainMoves A zs c w h hc.1 hc.2).mono ?_
  rintro e w1 ⟨p, rfl, hp0, hp1, hB⟩
  clear h hc hcm hl
  have hs1 := hB.size
  have e1 : eqL (pmL p) (pmL p) = true := eqL_self _
  go_wp2_with fail
  refine (plainMoves p _).mono ?_
  rintro e w2 ⟨A2, n2, c2, rfl, hO2, hb2⟩
  have hB2 := hB.trans (hb2.mono hs1)
  have hN2 : n2 ≤ 15 := by have := hO2.len; have := pmL_len p; omega
  go_wp2_with fail
  refine (plainMovesS p _).mono ?_
  rintro e w3 ⟨A3, n3, c3, rfl, hO3, hb3⟩
  have hs2 := hB2.size
  have hB3 := hB2.trans (hb3.mono hs2)
  have hN3 : n3 ≤ 15 := by have := hO3.len; have := pmL_len p; omega
  replace hO2 := hO2.below hb3 (Nat.le_refl _)
  go_wp2_with fail
  refine (sameInts' _ _ _ _ _ _ _ _ _ hO2.reads hO3.reads (by omega) (by omega)).mono ?_
  rintro e w4 ⟨rfl, hb4⟩
  have hs3 := hB3.size
  have hB4 := hB3.trans (hb4.mono hs3)
  replace hO2 := hO2.below hb4 (Nat.le_refl _)
  have HL2 := Lib.hid hO2.len
  clear hO3
  by_cases hok : 1 ≤ p ∧ p ≤ 8
  · obtain ⟨o0, o1⟩ := hok
    obtain ⟨k0, k1, k2⟩ := plain_law o0 o1
    obtain ⟨np, rfl⟩ : ∃ n : Nat, p = (n : Int) := ⟨p.toNat, by omega⟩
    obtain ⟨j, hj⟩ : ∃ j : Nat, 2 ^ (np - 1) = j := ⟨_, rfl⟩
    have hpow : (2 : Int) ^ (np - 1) = (j : Int) := by rw [← hj]; push_cast; rfl
    have hj2 : j ≤ 256 := by rw [← hj]; exact Nat.le_trans (Nat.pow_le_pow_right (by decide) (by omega : np - 1 ≤ 8)) (by decide)
    have hwj : wrap64 (j : Int) = (j : Int) := by unfold wrap64; omega
    rw [HL2.out] at k0
    rw [Int.toNat_natCast, hpow] at k1
    have hlb : ((n2 : Int) == 2 * (np : Int) - 1) = true := by simp; omega
    have hn0 : 0 < n2 := by omega
    have hz : ((n2 : Int) == 0) = false := by simp; omega
    have hk0 : (n2 : Int) ≤ 2 * (np : Int) - 1 := by omega
    clear hj
    go_wp2_with fail
    refine (movesRun (np : Int) 0 A2 n2 _ c2 _ hO2.reads (by omega)).mono ?_
    rintro e w' ⟨rfl, rfl⟩
    rw [k1, k2]
    clear k0 k1 k2 hO2
    go_wp2
    go_loopw [7] (fun i wr => ∃ k : Nat, k ≤ 5 ∧ i = .int .i64 k ∧ Below w.heap.size w wr) (fun i _ => 5 - (intOf i).toNat)
    case atStart => exact ⟨0, by omega, rfl, hB4⟩
    case round =>
      obtain ⟨k, hk, rfl, hBr⟩ := hrel
      by_cases hlt : k < 5
      · have hk4 : (k : Int) ≤ 4 := by omega
        go_wp2_with fail
        refine (leastMovesB (np : Int) (k : Int) w _ hBr).mono ?_
        rintro e w5 ⟨rfl, hB5⟩
        rcases lm_law (p := (np : Int)) (b := (k : Int)) o0 o1 (by omega) hk4 with ⟨m0, m1⟩ | ⟨m0, m1, m2, m3, m4⟩
        · rw [m0]
          clear m0 m1
          go_wp2
          go_roundw
          case rel => exact ⟨k + 1, by omega, by go_num, hB5⟩
          case measure => simp [intOf]; omega
        · generalize lmI (np : Int) (k : Int) = M at m0 m4 ⊢
          have hge : (n2 : Int) ≤ M := by omega
          clear m1 m2 m3
          go_wp2
          go_roundw
          case rel => exact ⟨k + 1, by omega, by go_num, hB5⟩
          case measure => simp [intOf]; omega
      · obtain rfl : k = 5 := by omega
        go_wp2
        go_ret
        exact ⟨rfl, hBr⟩
  · have hnil : pmL p = [] := by unfold pmL; rw [if_neg hok]
    have hz : n2 = 0 := by have := HL2.out; rw [hnil] at this; exact this.symm
    subst hz
    have ho : p < 1 ∨ (1 ≤ p ∧ 8 < p) := by omega
    clear hO2 hok hnil
    rcases ho with ho | ⟨ho, ho2⟩
    all_goals
      go_wp2_with (go_at_call 24; refine (alive _).mono ?_; rintro e w' ⟨rfl, rfl⟩)
      go_ret
      exact ⟨rfl, hB4⟩
end Go.Proofs.Ytmppiifkajmbgaa
