/- Contracts: rules that tell sums for sums. -/
import Derived.Test.YtfdgoddcpfgfjaaRing2
import Derived.Test.YtfdgoddcpfgfjaaWRingA
namespace Go.Proofs.Ytfdgoddcpfgfjaa
open Go.RowKit
set_option linter.unusedVariables false

theorem BoolPost.drewN {w : World} {b : Bool} (n : Nat) : BoolPost w b (.returned (.bool b)) (w.drewN n) := ⟨rfl, below_drewN (Below.refl _ _) n⟩
theorem xor8 {a b : Nat} (ha : a < 8) (hb : b < 8) : a ^^^ b < 8 := Nat.xor_lt_two_pow (n := 3) ha hb
theorem lin_test {rule : Int} (h0 : 0 ≤ rule) (h1 : rule < 256) (a b : Nat) (ha : a < 8) (hb : b < 8) :
    (bits BinOp.and IntKind.i64 (rule / 2 ^ (a ^^^ b)) 1 != bits BinOp.and IntKind.i64 (bits BinOp.xor IntKind.i64 (rule / 2 ^ a) (rule / 2 ^ b)) 1) = !lin1 rule a b := by
  obtain ⟨r, rfl⟩ := Int.eq_ofNat_of_zero_le h0
  have e : ∀ k : Nat, (r : Int) / 2 ^ k = ((r / 2 ^ k : Nat) : Int) := fun k => by push_cast; rfl
  have hl : ∀ k : Nat, r / 2 ^ k < 256 := fun k => Nat.lt_of_le_of_lt (Nat.div_le_self _ _) (by omega)
  have hx : r / 2 ^ a ^^^ r / 2 ^ b < 256 := Nat.xor_lt_two_pow (n := 8) (hl a) (hl b)
  rw [e, e, e, xor_nat _ _ (by have := hl a; omega) (by have := hl b; omega), and_one _ (Int.natCast_nonneg _) (by have := Int.ofNat_lt.2 (hl (a ^^^ b)); exact Int.lt_trans this (by decide)), and_one _ (Int.natCast_nonneg _) (Int.lt_trans (Int.ofNat_lt.2 hx) (by decide))]
  have h2 : ((r / 2 ^ a ^^^ r / 2 ^ b : Nat) : Int) % 2 = (bitI (r : Int) a + bitI (r : Int) b) % 2 := by
    have h3 : (r / 2 ^ a ^^^ r / 2 ^ b) % 2 = (r / 2 ^ a % 2 ^^^ r / 2 ^ b % 2) := Nat.xor_mod_two_pow (n := 1)
    simp only [bitI, e]
    generalize r / 2 ^ a = m at h3 ⊢
    generalize r / 2 ^ b = n at h3 ⊢
    rcases Nat.mod_two_eq_zero_or_one m with h4 | h4 <;> rcases Nat.mod_two_eq_zero_or_one n with h5 | h5 <;> rw [h4, h5] at h3 <;> simp only [Nat.xor_self, Nat.zero_xor, Nat.xor_zero] at h3 <;> omega
  rw [h2]
  simp only [lin1, bitI, e, bne]
set_option maxHeartbeats 1000000 in
theorem ruleLinear (rule : Int) (w : World) : Calls Try.prog 18 #[.int .i64 rule] w (BoolPost w (linB rule)) := by
  cases h : inB rule 0 255
  · have hv : linB rule = false := by simp [linB, h]
    rw [hv]
    go_enter Try.func18, Try.ntmps18
    go_wp2_with (go_at_call 43; refine (ruleOk _ _).mono ?_; rintro e w' ⟨rfl, rfl⟩)
    go_ret
    exact BoolPost.drewN 0
  · obtain ⟨h0, h1⟩ := r256 h
    have hlin : (∀ a, a < 8 → ∀ b, b < 8 → lin1 rule a b = true) → linB rule = true := fun hh => lin_iff.2 ⟨h, hh⟩
    have hnot : ∀ a b, a < 8 → b < 8 → lin1 rule a b = false → linB rule = false := fun a b ha hb hf => by
      cases hl : linB rule with
      | false => rfl
      | true => have := (lin_iff.1 hl).2 a ha b hb; rw [hf] at this; cases this
    have HL := Lib.hid hlin
    have HN := Lib.hid hnot
    clear hlin hnot
    go_enter Try.func18, Try.ntmps18
    go_wp2_with (go_at_call 43; refine (ruleOk _ _).mono ?_; rintro e w' ⟨rfl, rfl⟩)
    go_loopw [8] (fun i wr => ∃ k n : Nat, k ≤ 8 ∧ i = .int .i64 k ∧ (∀ a, a < k → ∀ b, b < 8 → lin1 rule a b = true) ∧ wr = w.drewN n) (fun i _ => 8 - (intOf i).toNat)
    case atStart => exact ⟨0, 0, Nat.zero_le _, rfl, fun a ha => absurd ha (by omega), rfl⟩
    case round =>
      obtain ⟨k, n, hk, rfl, hall, rfl⟩ := hrel
      have HA := Lib.hid hall
      clear hall
      by_cases hlt : k < 8
      · go_wp2
        go_loopw [11] (fun i wr => ∃ j n : Nat, j ≤ 8 ∧ i = .int .i64 j ∧ (∀ b, b < j → lin1 rule k b = true) ∧ wr = w.drewN n) (fun i _ => 8 - (intOf i).toNat)
        case atStart => exact ⟨0, n, Nat.zero_le _, rfl, fun a ha => absurd ha (by omega), rfl⟩
        case round =>
          obtain ⟨j, n, hj, rfl, hall, rfl⟩ := hrel
          have HB := Lib.hid hall
          clear hall
          by_cases hlj : j < 8
          · have ht := lin_test h0 h1 k j hlt hlj
            obtain ⟨c, hce, hc, hc8⟩ : ∃ c : Nat, k ^^^ j = c ∧ bits BinOp.xor IntKind.i64 (k : Int) (j : Int) = (c : Int) ∧ c < 8 := ⟨_, rfl, xor_nat _ _ (by omega) (by omega), xor8 hlt hlj⟩
            rw [hce] at ht
            clear hce
            cases hl : lin1 rule k j
            · rw [hl] at ht
              simp only [Bool.not_false] at ht
              go_wp2
              go_region
              go_wp2
              go_ret
              rw [HN.out k j hlt hlj hl]
              exact BoolPost.drewN (n + 1)
            · rw [hl] at ht
              simp only [Bool.not_true] at ht
              go_wp2
              go_region
              go_wp2
              go_roundw
              case rel => exact ⟨j + 1, n + 1, by omega, by go_num, fun b hb => by
                by_cases e : b = j
                · subst e; exact hl
                · exact HB.out b (by omega), rfl⟩
              case measure => simp [intOf]; omega
          · obtain rfl : j = 8 := by omega
            go_wp2
            go_roundw
            case rel => exact ⟨k + 1, n, by omega, by go_num, fun a ha => by
              by_cases e : a = k
              · subst e; exact HB.out
              · exact HA.out a (by omega), rfl⟩
            case measure => simp [intOf]; omega
      · obtain rfl : k = 8 := by omega
        go_wp2
        go_ret
        rw [HL.out HA.out]
        exact BoolPost.drewN n
theorem xor_bits3 : ∀ k : Nat, k < 8 → ∀ j : Nat, j < 8 → ((bitI (k : Int) 0 + bitI (j : Int) 0) % 2 + (bitI (k : Int) 1 + bitI (j : Int) 1) % 2 * 2 + (bitI (k : Int) 2 + bitI (j : Int) 2) % 2 * 4).toNat = k ^^^ j := by decide +kernel
set_option maxHeartbeats 4000000 in
theorem ruleLinearS (rule : Int) (w : World) : Calls Try.prog 17 #[.int .i64 rule] w (BoolPost w (linB rule)) := by
  cases h : inB rule 0 255
  · have hv : linB rule = false := by simp [linB, h]
    rw [hv]
    go_enter Try.func17, Try.ntmps17
    go_wp2
    refine wp_loop_rounds 1 ?_
    rw [rounds_succ]
    go_wp2_with (go_at_call 41; refine (l1In _ _ _ _).mono ?_; rintro e w' ⟨rfl, rfl⟩)
    go_ret
    exact BoolPost.drewN 0
  · obtain ⟨h0, h1⟩ := r256 h
    have hlin : (∀ a, a < 8 → ∀ b, b < 8 → lin1 rule a b = true) → linB rule = true := fun hh => lin_iff.2 ⟨h, hh⟩
    have hnot : ∀ a b, a < 8 → b < 8 → lin1 rule a b = false → linB rule = false := fun a b ha hb hf => by
      cases hl : linB rule with
      | false => rfl
      | true => have := (lin_iff.1 hl).2 a ha b hb; rw [hf] at this; cases this
    have HL := Lib.hid hlin
    have HN := Lib.hid hnot
    clear hlin hnot
    go_enter Try.func17, Try.ntmps17
    go_wp2
    go_loop [3] (fun i => ∃ k : Nat, k ≤ 8 ∧ i = .int .i64 k ∧ (∀ a, a < k → ∀ b, b < 8 → lin1 rule a b = true)) (fun i => 8 - (intOf i).toNat)
    case atStart => exact ⟨0, Nat.zero_le _, rfl, fun a ha => absurd ha (by omega)⟩
    case round =>
      obtain ⟨k, hk, rfl, hall⟩ := hrel
      have HA := Lib.hid hall
      clear hall
      by_cases hlt : k < 8
      · go_wp2_with (go_at_call 41; refine (l1In _ _ _ _).mono ?_; rintro e w' ⟨rfl, rfl⟩)
        go_loop [4] (fun i => ∃ j : Nat, j ≤ 8 ∧ i = .int .i64 j ∧ (∀ b, b < j → lin1 rule k b = true)) (fun i => 8 - (intOf i).toNat)
        case atStart => exact ⟨0, Nat.zero_le _, rfl, fun a ha => absurd ha (by omega)⟩
        case round =>
          obtain ⟨j, hj, rfl, hall⟩ := hrel
          have HB := Lib.hid hall
          clear hall
          by_cases hlj : j < 8
          · obtain ⟨a0, a0'⟩ := bitI_01 (k : Int) 0
            obtain ⟨a1, a1'⟩ := bitI_01 (k : Int) 1
            obtain ⟨a2, a2'⟩ := bitI_01 (k : Int) 2
            obtain ⟨b0, b0'⟩ := bitI_01 (j : Int) 0
            obtain ⟨b1, b1'⟩ := bitI_01 (j : Int) 1
            obtain ⟨b2, b2'⟩ := bitI_01 (j : Int) 2
            obtain ⟨c0, c0'⟩ := bitI_01 rule k
            obtain ⟨c1, c1'⟩ := bitI_01 rule j
            have hE : ((bitI (k : Int) 0 + bitI (j : Int) 0) % 2 + (bitI (k : Int) 1 + bitI (j : Int) 1) % 2 * 2 + (bitI (k : Int) 2 + bitI (j : Int) 2) % 2 * 4).toNat = k ^^^ j := xor_bits3 k hlt j hlj
            have ht : ((bitI rule k + bitI rule j) % 2 != bitI rule (k ^^^ j)) = !lin1 rule k j := by
              rw [lin1, bne, Bool.eq_iff_iff]; simp; constructor <;> intro h h' <;> exact h h'.symm
            generalize k ^^^ j = c at hE ht
            cases hl : lin1 rule k j
            · rw [hl] at ht
              simp only [Bool.not_false] at ht
              go_wp2
              refine wp_loop_rounds 4 ?_
              iterate 4 (rw [rounds_succ]; go_wp2_with (go_at_call 42; refine (l1Bit _ _ _ (by omega) (by omega) (by omega) (by omega)).mono ?_; rintro e w' ⟨rfl, rfl⟩))
              go_ret
              rw [HN.out k j hlt hlj hl]
              exact BoolPost.drewN 0
            · rw [hl] at ht
              simp only [Bool.not_true] at ht
              go_wp2
              refine wp_loop_rounds 4 ?_
              iterate 4 (rw [rounds_succ]; go_wp2_with (go_at_call 42; refine (l1Bit _ _ _ (by omega) (by omega) (by omega) (by omega)).mono ?_; rintro e w' ⟨rfl, rfl⟩))
              go_round
              case rel => exact ⟨j + 1, by omega, by go_num, fun b hb => by
                by_cases e : b = j
                · subst e; exact hl
                · exact HB.out b (by omega)⟩
              case measure => simp [intOf]; omega
          · obtain rfl : j = 8 := by omega
            go_wp2
            go_round
            case rel => exact ⟨k + 1, by omega, by go_num, fun a ha => by
              by_cases e : a = k
              · subst e; exact HB.out
              · exact HA.out a (by omega)⟩
            case measure => simp [intOf]; omega
      · obtain rfl : k = 8 := by omega
        go_wp2_with (go_at_call 41; refine (l1In _ _ _ _).mono ?_; rintro e w' ⟨rfl, rfl⟩)
        go_ret
        rw [HL.out HA.out]
        exact BoolPost.drewN 0
end Go.Proofs.Ytfdgoddcpfgfjaa
