/- The walks of the drawn laws on sets of places. -/
import Derived.Test.YtkphaioommhkcaaDrawPeb
import Derived.Test.YtkphaioommhkcaaPlPeb
namespace Go.Proofs.Ytkphaioommhkcaa
open Go.RowKit
set_option linter.unusedVariables false

set_option maxHeartbeats 1000000 in
theorem walkFnPlacesValid (w : World) (A : Option Addr) (zs : List Int) (c : Nat) (hc : zs.length ≤ c ∧ c ≤ maxLen) (h : RB w w.heap.size A zs) :
    Calls Try.prog 6 #[.slice A zs.length c] w fun e w' => e = .returned (.bool true) ∧ Below w.heap.size w w' := by
  have hcm := hc.2
  unfold maxLen at hcm
  by_cases hl : 1048576 < zs.length
  · go_enter Try.func6, Try.ntmps6
    go_wp2
    go_ret
    exact ⟨rfl, Below.refl _ _⟩
  · go_enter Try.func6, Try.ntmps6
    go_wp2_with fail
    refine (drawPlacesValid A zs c w h hc.1 hc.2).mono ?_
    rintro e w1 ⟨x, y, rfl, hx0, hx1, hy0, hy1, hb1⟩
    have e1 := pv_neg x
    have e2 := pv_pow x
    have hx9 : x = -1 ∨ x = 0 ∨ x = 1 ∨ x = 2 ∨ x = 3 ∨ x = 4 ∨ x = 5 ∨ x = 6 ∨ x = 7 ∨ x = 8 ∨ x = 9 := by omega
    by_cases hv : pvB x y = true
    · have e3 := fun h8 => pv_succ hv h8
      rcases hx9 with rfl | rfl | rfl | rfl | rfl | rfl | rfl | rfl | rfl | rfl | rfl
      all_goals
        first
          | (have h9 := pvB_bd hv; omega)
          | (try simp only [ne_eq, Int.reduceEq, not_false_eq_true, not_true_eq_false, forall_const, Int.reduceAdd] at e3
             simp only [Int.reduceToNat, Int.reducePow, Int.toNat_one, Int.pow_succ, Int.reduceMul] at e2
             go_wp2_with (first | (go_at_call 16; refine (placesValid _ _ _).mono ?_; rintro e w' ⟨rfl, rfl⟩) | (go_at_call 15; refine (placesValidS _ _ _).mono ?_; rintro e w' ⟨rfl, rfl⟩) | (go_at_call 22; refine (alive _).mono ?_; rintro e w' ⟨rfl, rfl⟩))
             go_ret
             exact ⟨rfl, hb1⟩)
    · have hv' : pvB x y = false := by simpa using hv
      clear hv
      go_wp2_with (first | (go_at_call 16; refine (placesValid _ _ _).mono ?_; rintro e w' ⟨rfl, rfl⟩) | (go_at_call 15; refine (placesValidS _ _ _).mono ?_; rintro e w' ⟨rfl, rfl⟩) | (go_at_call 22; refine (alive _).mono ?_; rintro e w' ⟨rfl, rfl⟩))
      go_ret
      exact ⟨rfl, hb1⟩

set_option maxHeartbeats 1000000 in
theorem walkFnMoveMay (w : World) (A : Option Addr) (zs : List Int) (c : Nat) (hc : zs.length ≤ c ∧ c ≤ maxLen) (h : RB w w.heap.size A zs) :
    Calls Try.prog 8 #[.slice A zs.length c] w fun e w' => e = .returned (.bool true) ∧ Below w.heap.size w w' := by
  have hcm := hc.2
  unfold maxLen at hcm
  by_cases hl : 1048576 < zs.length
  · go_enter Try.func8, Try.ntmps8
    go_wp2
    go_ret
    exact ⟨rfl, Below.refl _ _⟩
  · go_enter Try.func8, Try.ntmps8
    go_wp2_with fail
    refine (drawMoveMay A zs c w h hc.1 hc.2).mono ?_
    rintro e w1 ⟨x, y, z, rfl, hx0, hx1, hy0, hy1, hz0, hz1, hb1⟩
    have e1 : mmB x y 0 = pvB x y := mm_zero
    by_cases hm : mmB x y z = true
    · obtain ⟨hv, hk, hk', hb⟩ := mmB_iff.1 hm
      obtain ⟨h1, h2, h3, h4⟩ := pvB_bd hv
      rcases mm8 hk (by omega) with rfl | rfl | rfl | rfl | rfl | rfl | rfl | rfl
      · go_wp2_with (first | (go_at_call 18; refine (moveMay _ _ _ _).mono ?_; rintro e w' ⟨rfl, rfl⟩) | (go_at_call 17; refine (moveMayS _ _ _ _).mono ?_; rintro e w' ⟨rfl, rfl⟩) | (go_at_call 16; refine (placesValid _ _ _).mono ?_; rintro e w' ⟨rfl, rfl⟩) | (go_at_call 22; refine (alive _).mono ?_; rintro e w' ⟨rfl, rfl⟩))
        go_ret
        exact ⟨rfl, hb1⟩
      all_goals
        simp [bitI] at hb
        clear hm
        go_wp2_with (first | (go_at_call 18; refine (moveMay _ _ _ _).mono ?_; rintro e w' ⟨rfl, rfl⟩) | (go_at_call 17; refine (moveMayS _ _ _ _).mono ?_; rintro e w' ⟨rfl, rfl⟩) | (go_at_call 16; refine (placesValid _ _ _).mono ?_; rintro e w' ⟨rfl, rfl⟩) | (go_at_call 22; refine (alive _).mono ?_; rintro e w' ⟨rfl, rfl⟩))
        all_goals
          go_ret
          exact ⟨rfl, hb1⟩
    · have hm' : mmB x y z = false := by simpa using hm
      clear hm
      go_wp2_with (first | (go_at_call 18; refine (moveMay _ _ _ _).mono ?_; rintro e w' ⟨rfl, rfl⟩) | (go_at_call 17; refine (moveMayS _ _ _ _).mono ?_; rintro e w' ⟨rfl, rfl⟩) | (go_at_call 16; refine (placesValid _ _ _).mono ?_; rintro e w' ⟨rfl, rfl⟩) | (go_at_call 22; refine (alive _).mono ?_; rintro e w' ⟨rfl, rfl⟩))
      go_ret
      exact ⟨rfl, hb1⟩

set_option maxHeartbeats 1000000 in
theorem walkFnMoveDo (w : World) (A : Option Addr) (zs : List Int) (c : Nat) (hc : zs.length ≤ c ∧ c ≤ maxLen) (h : RB w w.heap.size A zs) :
    Calls Try.prog 10 #[.slice A zs.length c] w fun e w' => e = .returned (.bool true) ∧ Below w.heap.size w w' := by
  have hcm := hc.2
  unfold maxLen at hcm
  by_cases hl : 1048576 < zs.length
  · go_enter Try.func10, Try.ntmps10
    go_wp2
    go_ret
    exact ⟨rfl, Below.refl _ _⟩
  · go_enter Try.func10, Try.ntmps10
    go_wp2_with fail
    refine (drawMoveDo A zs c w h hc.1 hc.2).mono ?_
    rintro e w1 ⟨x, y, z, rfl, hx0, hx1, hy0, hy1, hz0, hz1, hb1⟩
    by_cases hm : mmB x y z = true
    · obtain ⟨hv, hm2, hback, hnn, _⟩ := md_yes hm
      have hm3 := Lib.hid hm
      clear hm hm2
      go_wp2_with (first | (go_at_call 20; refine (moveDo _ _ _ _).mono ?_; rintro e w' ⟨rfl, rfl⟩) | (go_at_call 19; refine (moveDoS _ _ _ _).mono ?_; rintro e w' ⟨rfl, rfl⟩) | (go_at_call 16; refine (placesValid _ _ _).mono ?_; rintro e w' ⟨rfl, rfl⟩))
      go_ret
      exact ⟨rfl, hb1⟩
    · have hr := md_no hm
      have hm' : mmB x y z = false := by simpa using hm
      clear hm
      go_wp2_with (first | (go_at_call 20; refine (moveDo _ _ _ _).mono ?_; rintro e w' ⟨rfl, rfl⟩) | (go_at_call 19; refine (moveDoS _ _ _ _).mono ?_; rintro e w' ⟨rfl, rfl⟩) | (go_at_call 18; refine (moveMay _ _ _ _).mono ?_; rintro e w' ⟨rfl, rfl⟩) | (go_at_call 22; refine (alive _).mono ?_; rintro e w' ⟨rfl, rfl⟩))
      go_ret
      exact ⟨rfl, hb1⟩

set_option maxHeartbeats 1000000 in
theorem walkFnPebblesOn (w : World) (A : Option Addr) (zs : List Int) (c : Nat) (hc : zs.length ≤ c ∧ c ≤ maxLen) (h : RB w w.heap.size A zs) :
    Calls Try.prog 11 #[.slice A zs.length c] w fun e w' => e = .returned (.bool true) ∧ Below w.heap.size w w' := by
  have hcm := hc.2
  unfold maxLen at hcm
  by_cases hl : 1048576 < zs.length
  · go_enter Try.func11, Try.ntmps11
    go_wp2
    go_ret
    exact ⟨rfl, Below.refl _ _⟩
  · go_enter Try.func11, Try.ntmps11
    go_wp2_with fail
    refine (drawPebblesOn A zs c w h hc.1 hc.2).mono ?_
    rintro e w1 ⟨x, y, rfl, hx0, hx1, hy0, hy1, hb1⟩
    by_cases hv : pvB x y = true
    · obtain ⟨hp0, hp1⟩ := pebI_bd hv
      obtain ⟨h1, h2, h3, h4⟩ := pvB_bd hv
      obtain ⟨n, rfl⟩ := Int.eq_ofNat_of_zero_le (show 0 ≤ x by omega)
      go_wp2_with (first | (go_at_call 31; refine (pebblesOn _ _ _).mono ?_; rintro e w' ⟨rfl, rfl⟩) | (go_at_call 30; refine (pebblesOnS _ _ _).mono ?_; rintro e w' ⟨rfl, rfl⟩))
      go_loop [6] (fun i => ∃ k : Nat, k ≤ n ∧ i = .int .i64 k) (fun i => n - (intOf i).toNat)
      case atStart => exact ⟨0, Nat.zero_le _, rfl⟩
      case round =>
        obtain ⟨k, hk, rfl⟩ := hrel
        by_cases hlt : k < n
        · by_cases hm : mmB n y k = true
          · obtain ⟨hv', hm2, hback, hnn, hpm⟩ := md_yes hm
            have hq := pebI_bd hv'
            have hH := Lib.hid hback
            clear hback hm2
            have hw1 : IntKind.i64.wrap (pebI n y - 1) = pebI n y - 1 := by rw [IntKind.wrap_i64]; omega
            have hw2 : IntKind.i64.wrap (pebI n y + 1) = pebI n y + 1 := by rw [IntKind.wrap_i64]; omega
            rcases hpm with hpm | hpm
            all_goals
              go_wp2_with (first | (go_at_call 31; refine (pebblesOn _ _ _).mono ?_; rintro e w' ⟨rfl, rfl⟩) | (go_at_call 20; refine (moveDo _ _ _ _).mono ?_; rintro e w' ⟨rfl, rfl⟩) | (go_at_call 18; refine (moveMay _ _ _ _).mono ?_; rintro e w' ⟨rfl, rfl⟩))
              go_round
              case rel => exact ⟨k + 1, by omega, by go_num⟩
              case measure => simp [intOf]; omega
          · have hm' : mmB n y k = false := by simpa using hm
            clear hm
            go_wp2_with (first | (go_at_call 31; refine (pebblesOn _ _ _).mono ?_; rintro e w' ⟨rfl, rfl⟩) | (go_at_call 20; refine (moveDo _ _ _ _).mono ?_; rintro e w' ⟨rfl, rfl⟩) | (go_at_call 18; refine (moveMay _ _ _ _).mono ?_; rintro e w' ⟨rfl, rfl⟩))
            go_round
            case rel => exact ⟨k + 1, by omega, by go_num⟩
            case measure => simp [intOf]; omega
        · obtain rfl : k = n := by omega
          go_wp2
          go_ret
          exact ⟨rfl, hb1⟩
    · have hp := pebI_no hv
      clear hv
      go_wp2_with (first | (go_at_call 31; refine (pebblesOn _ _ _).mono ?_; rintro e w' ⟨rfl, rfl⟩) | (go_at_call 30; refine (pebblesOnS _ _ _).mono ?_; rintro e w' ⟨rfl, rfl⟩) | (go_at_call 22; refine (alive _).mono ?_; rintro e w' ⟨rfl, rfl⟩))
      go_ret
      exact ⟨rfl, hb1⟩
end Go.Proofs.Ytkphaioommhkcaa
