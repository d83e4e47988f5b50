/- Contracts of the functions on sets of places. -/
import Derived.Test.YtmppiifkajmbgaaBase
namespace Go.Proofs.Ytmppiifkajmbgaa
open Go.RowKit
set_option linter.unusedVariables false

theorem placesValid (p s : Int) (w : World) : Calls Try.prog 59 #[.int .i64 p, .int .i64 s] w fun e w' => e = .returned (.bool (pvB p s)) ∧ w = w' := by
  by_cases h : 1 ≤ p ∧ p ≤ 8
  · rcases eight h.1 h.2 with rfl | rfl | rfl | rfl | rfl | rfl | rfl | rfl
    all_goals
      clear h
      go_enter Try.func59, Try.ntmps59
      go_wp2_with (first | (go_at_call 41; refine (placesOk _ _).mono ?_; rintro e w' ⟨rfl, rfl⟩) | (go_at_call 44; refine (within _ _ _ _).mono ?_; rintro e w' ⟨rfl, rfl⟩))
      go_ret
      exact ⟨ret_bool (by rw [Bool.eq_iff_iff, inB_iff, pvB_iff]; simp; omega), rfl⟩
  · have hb : inB p 1 8 = false := inB_f h
    have hr : pvB p s = false := by rw [Bool.eq_false_iff]; intro hh; exact h ⟨(pvB_iff.1 hh).1, (pvB_iff.1 hh).2.1⟩
    clear h
    go_enter Try.func59, Try.ntmps59
    go_wp2_with (first | (go_at_call 41; refine (placesOk _ _).mono ?_; rintro e w' ⟨rfl, rfl⟩))
    go_ret
    exact ⟨ret_bool (by rw [hr]), rfl⟩

theorem placesValidS (p s : Int) (w : World) : Calls Try.prog 69 #[.int .i64 p, .int .i64 s] w fun e w' => e = .returned (.bool (pvB p s)) ∧ w = w' := by
  by_cases h : 1 ≤ p ∧ p ≤ 8
  · rcases eight h.1 h.2 with rfl | rfl | rfl | rfl | rfl | rfl | rfl | rfl
    all_goals
      clear h
      go_enter Try.func69, Try.ntmps69
      go_wp2_with (go_at_call 40; refine (l1In _ _ _ _).mono ?_; rintro e w' ⟨rfl, rfl⟩)
      go_ret
      exact ⟨ret_bool (by rw [Bool.eq_iff_iff, inB_iff, pvB_iff]; simp; omega), rfl⟩
  · have hb : inB p 1 8 = false := inB_f h
    have hr : pvB p s = false := by rw [Bool.eq_false_iff]; intro hh; exact h ⟨(pvB_iff.1 hh).1, (pvB_iff.1 hh).2.1⟩
    clear h
    go_enter Try.func69, Try.ntmps69
    go_wp2_with (go_at_call 40; refine (l1In _ _ _ _).mono ?_; rintro e w' ⟨rfl, rfl⟩)
    go_ret
    exact ⟨ret_bool (by rw [hr]), rfl⟩

theorem moveMay (p s k : Int) (w : World) : Calls Try.prog 65 #[.int .i64 p, .int .i64 s, .int .i64 k] w fun e w' => e = .returned (.bool (mmB p s k)) ∧ w = w' := by
  by_cases hp : pvB p s = true
  · obtain ⟨h1, h2, h3, h4⟩ := pvB_bd hp
    have hw : IntKind.i64.wrap (p - 1) = p - 1 := by rw [IntKind.wrap_i64]; omega
    by_cases hk : 0 ≤ k ∧ k < p
    · have hb : inB k 0 (p - 1) = true := inB_t hk.1 (by omega)
      have hr : mmB p s k = decide (k = 0 ∨ bitI s (k - 1).toNat = 1) := by rw [mmB, hp]; simp [hk]
      rcases mm8 hk.1 (by omega) with rfl | rfl | rfl | rfl | rfl | rfl | rfl | rfl
      all_goals
        clear hk
        go_enter Try.func65, Try.ntmps65
        go_wp2_with (first | (go_at_call 59; refine (placesValid _ _ _).mono ?_; rintro e w' ⟨rfl, rfl⟩) | (go_at_call 44; refine (within _ _ _ _).mono ?_; rintro e w' ⟨rfl, rfl⟩))
        go_ret
        exact ⟨ret_bool (by rw [hr]; first | (simp; done) | (rw [and_one _ (by omega) (by omega), Bool.eq_iff_iff]; simp [bitI])), rfl⟩
    · have hb : inB k 0 (p - 1) = false := inB_f (by omega)
      have hr : mmB p s k = false := by simp [mmB]; omega
      clear hk
      go_enter Try.func65, Try.ntmps65
      go_wp2_with (first | (go_at_call 59; refine (placesValid _ _ _).mono ?_; rintro e w' ⟨rfl, rfl⟩) | (go_at_call 44; refine (within _ _ _ _).mono ?_; rintro e w' ⟨rfl, rfl⟩))
      go_ret
      exact ⟨ret_bool (by rw [hr]), rfl⟩
  · have hr : mmB p s k = false := by simp [mmB, hp]
    have hp' : pvB p s = false := by simpa using hp
    clear hp
    go_enter Try.func65, Try.ntmps65
    go_wp2_with (first | (go_at_call 59; refine (placesValid _ _ _).mono ?_; rintro e w' ⟨rfl, rfl⟩))
    go_ret
    exact ⟨ret_bool (by rw [hr]), rfl⟩

theorem moveMayS (p s k : Int) (w : World) : Calls Try.prog 67 #[.int .i64 p, .int .i64 s, .int .i64 k] w fun e w' => e = .returned (.bool (mmB p s k)) ∧ w = w' := by
  by_cases hp : pvB p s = true
  · obtain ⟨h1, h2, h3, h4⟩ := pvB_bd hp
    have hw : IntKind.i64.wrap (p - 1) = p - 1 := by rw [IntKind.wrap_i64]; omega
    by_cases hk : 0 ≤ k ∧ k < p
    · have hb : inB k 0 (p - 1) = true := inB_t hk.1 (by omega)
      have hr : mmB p s k = decide (k = 0 ∨ bitI s (k - 1).toNat = 1) := by rw [mmB, hp]; simp [hk]
      by_cases k0 : k = 0
      · subst k0
        go_enter Try.func67, Try.ntmps67
        go_wp2_with (first | (go_at_call 69; refine (placesValidS _ _ _).mono ?_; rintro e w' ⟨rfl, rfl⟩) | (go_at_call 40; refine (l1In _ _ _ _).mono ?_; rintro e w' ⟨rfl, rfl⟩))
        go_ret
        exact ⟨ret_bool (by rw [hr]; simp), rfl⟩
      · have hk0 : (k == 0) = false := by simp [k0]
        have hkw : IntKind.i64.wrap (k - 1) = k - 1 := by rw [IntKind.wrap_i64]; omega
        have hk1 : 0 ≤ k - 1 := by omega
        have hk2 : k - 1 < 8 := by omega
        have HK := Lib.hid k0
        clear k0 hk
        go_enter Try.func67, Try.ntmps67
        go_wp2_with (first | (go_at_call 69; refine (placesValidS _ _ _).mono ?_; rintro e w' ⟨rfl, rfl⟩) | (go_at_call 40; refine (l1In _ _ _ _).mono ?_; rintro e w' ⟨rfl, rfl⟩) | (go_at_call 57; refine (l1Bit _ _ _ h3 (by omega) hk1 hk2).mono ?_; rintro e w' ⟨rfl, rfl⟩))
        go_ret
        exact ⟨ret_bool (by rw [hr, Bool.eq_iff_iff]; simp [HK.out]), rfl⟩
    · have hb : inB k 0 (p - 1) = false := inB_f (by omega)
      have hr : mmB p s k = false := by simp [mmB]; omega
      clear hk
      go_enter Try.func67, Try.ntmps67
      go_wp2_with (first | (go_at_call 69; refine (placesValidS _ _ _).mono ?_; rintro e w' ⟨rfl, rfl⟩) | (go_at_call 40; refine (l1In _ _ _ _).mono ?_; rintro e w' ⟨rfl, rfl⟩))
      go_ret
      exact ⟨ret_bool (by rw [hr]), rfl⟩
  · have hr : mmB p s k = false := by simp [mmB, hp]
    have hp' : pvB p s = false := by simpa using hp
    clear hp
    go_enter Try.func67, Try.ntmps67
    go_wp2_with (first | (go_at_call 69; refine (placesValidS _ _ _).mono ?_; rintro e w' ⟨rfl, rfl⟩))
    go_ret
    exact ⟨ret_bool (by rw [hr]), rfl⟩

theorem l1Turn (s k : Int) (w : World) (h0 : 0 ≤ s) (h1 : s < 256) (hk : 0 ≤ k) (hk' : k < 8) : Calls Try.prog 68 #[.int .i64 s, .int .i64 k] w fun e w' => e = .returned (.int .i64 (turnI s k.toNat)) ∧ w = w' := by
  have hb0 : 0 ≤ bitI s k.toNat := by unfold bitI; omega
  by_cases hb : bitI s k.toNat = 1
  · have hr : turnI s k.toNat = s - 2 ^ k.toNat := by rw [turnI, if_pos hb]
    rcases mm8 hk hk' with rfl | rfl | rfl | rfl | rfl | rfl | rfl | rfl
    all_goals
      simp only [Int.toNat_zero, Int.toNat_one, Int.reduceToNat] at hb
      go_enter Try.func68, Try.ntmps68
      go_wp2_with (go_at_call 57; refine (l1Bit _ _ _ h0 (by omega) hk hk').mono ?_; rintro e w' ⟨rfl, rfl⟩)
      go_ret
      exact ⟨ret_int (by rw [hr]; first | rfl | simp), rfl⟩
  · have hr : turnI s k.toNat = s + 2 ^ k.toNat := by rw [turnI, if_neg hb]
    rcases mm8 hk hk' with rfl | rfl | rfl | rfl | rfl | rfl | rfl | rfl
    all_goals
      simp only [Int.toNat_zero, Int.toNat_one, Int.reduceToNat] at hb
      go_enter Try.func68, Try.ntmps68
      go_wp2_with (go_at_call 57; refine (l1Bit _ _ _ h0 (by omega) hk hk').mono ?_; rintro e w' ⟨rfl, rfl⟩)
      go_ret
      exact ⟨ret_int (by rw [hr]; first | rfl | simp), rfl⟩

theorem moveDoS (p s k : Int) (w : World) : Calls Try.prog 54 #[.int .i64 p, .int .i64 s, .int .i64 k] w fun e w' => e = .returned (.int .i64 (mdI p s k)) ∧ w = w' := by
  by_cases hm : mmB p s k = true
  · have hr : mdI p s k = turnI s k.toNat := by rw [mdI, if_pos hm]
    obtain ⟨hv, hk, hk', _⟩ := mmB_iff.1 hm
    obtain ⟨h1, h2, h3, h4⟩ := pvB_bd hv
    clear hv
    have hk8 : k < 8 := by omega
    go_enter Try.func54, Try.ntmps54
    go_wp2_with (first | (go_at_call 67; refine (moveMayS _ _ _ _).mono ?_; rintro e w' ⟨rfl, rfl⟩) | (go_at_call 68; refine (l1Turn _ _ _ h3 h4 hk hk8).mono ?_; rintro e w' ⟨rfl, rfl⟩))
    go_ret
    exact ⟨ret_int (by rw [hr]), rfl⟩
  · have hr : mdI p s k = -1 := by rw [mdI, if_neg hm]
    have hm' : mmB p s k = false := by simpa using hm
    clear hm
    go_enter Try.func54, Try.ntmps54
    go_wp2_with (first | (go_at_call 67; refine (moveMayS _ _ _ _).mono ?_; rintro e w' ⟨rfl, rfl⟩))
    go_ret
    exact ⟨ret_int (by rw [hr]), rfl⟩

theorem moveDo (p s k : Int) (w : World) : Calls Try.prog 51 #[.int .i64 p, .int .i64 s, .int .i64 k] w fun e w' => e = .returned (.int .i64 (mdI p s k)) ∧ w = w' := by
  by_cases hm : mmB p s k = true
  · have hr : mdI p s k = turnI s k.toNat := by rw [mdI, if_pos hm]
    obtain ⟨hv, hk, hk', _⟩ := mmB_iff.1 hm
    obtain ⟨h1, h2, h3, h4⟩ := pvB_bd hv
    clear hv
    rcases mm8 hk (by omega) with rfl | rfl | rfl | rfl | rfl | rfl | rfl | rfl
    all_goals
      go_enter Try.func51, Try.ntmps51
      go_wp2_with (go_at_call 65; refine (moveMay _ _ _ _).mono ?_; rintro e w' ⟨rfl, rfl⟩)
      go_ret
      exact ⟨ret_int (hr ▸ xor_turn' s _ _ h3 h4 (by decide) (by decide) (by decide)), rfl⟩
  · have hr : mdI p s k = -1 := by rw [mdI, if_neg hm]
    have hm' : mmB p s k = false := by simpa using hm
    clear hm
    go_enter Try.func51, Try.ntmps51
    go_wp2_with (go_at_call 65; refine (moveMay _ _ _ _).mono ?_; rintro e w' ⟨rfl, rfl⟩)
    go_ret
    exact ⟨ret_int (by rw [hr]), rfl⟩

theorem onesCount (x : Int) (w : World) (h0 : 0 ≤ x) (h1 : x < 256) : Calls Try.prog 60 #[.int .u64 x] w fun e w' => e = .returned (.int .i64 (popI x 8)) ∧ w = w' := by
  go_enter Try.func60, Try.ntmps60
  go_wp2
  go_ret
  refine ⟨ret_int ?_, rfl⟩
  revert x
  refine all256 ?_
  decide +kernel

theorem pebblesOn (p s : Int) (w : World) : Calls Try.prog 34 #[.int .i64 p, .int .i64 s] w fun e w' => e = .returned (.int .i64 (pebI p s)) ∧ w = w' := by
  by_cases hp : pvB p s = true
  · obtain ⟨h1, h2, h3, h4⟩ := pvB_bd hp
    have hr : pebI p s = popI s 8 := by
      rw [pebI, if_pos hp]
      have := (pvB_iff.1 hp).2.2.2
      have e : p.toNat + (8 - p.toNat) = 8 := by omega
      rw [← e, popI_high h3 this]
    go_enter Try.func34, Try.ntmps34
    go_wp2_with (first | (go_at_call 59; refine (placesValid _ _ _).mono ?_; rintro e w' ⟨rfl, rfl⟩) | (go_at_call 60; refine (onesCount _ _ h3 h4).mono ?_; rintro e w' ⟨rfl, rfl⟩))
    go_ret
    exact ⟨ret_int (by rw [hr]), rfl⟩
  · have hr : pebI p s = -1 := by rw [pebI, if_neg hp]
    have hp' : pvB p s = false := by simpa using hp
    clear hp
    go_enter Try.func34, Try.ntmps34
    go_wp2_with (go_at_call 59; refine (placesValid _ _ _).mono ?_; rintro e w' ⟨rfl, rfl⟩)
    go_ret
    exact ⟨ret_int (by rw [hr]), rfl⟩

theorem pebblesOnS (p s : Int) (w : World) : Calls Try.prog 55 #[.int .i64 p, .int .i64 s] w fun e w' => e = .returned (.int .i64 (pebI p s)) ∧ w = w' := by
  by_cases hp : pvB p s = true
  · obtain ⟨h1, h2, h3, h4⟩ := pvB_bd hp
    have hr : pebI p s = popI s p.toNat := by rw [pebI, if_pos hp]
    obtain ⟨n, rfl⟩ := Int.eq_ofNat_of_zero_le (show 0 ≤ p by omega)
    rw [Int.toNat_natCast] at hr
    go_enter Try.func55, Try.ntmps55
    go_wp2_with (go_at_call 69; refine (placesValidS _ _ _).mono ?_; rintro e w' ⟨rfl, rfl⟩)
    go_loop [5, 6] (fun q i => ∃ k : Nat, k ≤ n ∧ i = .int .i64 k ∧ q = .int .i64 (popI s k)) (fun _ i => n - (intOf i).toNat)
    case atStart => exact ⟨0, Nat.zero_le _, rfl, rfl⟩
    case round =>
      obtain ⟨k, hk, rfl, rfl⟩ := hrel
      have hb := bitI_01 s k
      have hq := popI_bd s k
      by_cases hlt : k < n
      · go_wp2_with (go_at_call 57; refine (l1Bit _ _ _ h3 (by omega) (by omega) (by omega)).mono ?_; rintro e w' ⟨rfl, rfl⟩)
        go_round
        case rel => exact ⟨k + 1, by omega, by go_num, by simp [popI]⟩
        case measure => simp [intOf]; omega
      · obtain rfl : k = n := by omega
        go_wp2
        go_ret
        exact ⟨ret_int (by first | rfl | rw [hr]), rfl⟩
  · have hr : pebI p s = -1 := by rw [pebI, if_neg hp]
    have hp' : pvB p s = false := by simpa using hp
    clear hp
    go_enter Try.func55, Try.ntmps55
    go_wp2_with (go_at_call 69; refine (placesValidS _ _ _).mono ?_; rintro e w' ⟨rfl, rfl⟩)
    go_ret
    exact ⟨ret_int (by rw [hr]), rfl⟩
end Go.Proofs.Ytmppiifkajmbgaa
