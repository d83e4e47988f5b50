/- The walk of the drawn law FnSetsWith. -/
import Derived.Test.YtmppiifkajmbgaaFar3
namespace Go.Proofs.Ytmppiifkajmbgaa
open Go.RowKit
set_option linter.unusedVariables false

set_option maxRecDepth 20000 in
set_option maxHeartbeats 4000000 in
theorem walkFnSetsWith (w : World) (A : Option Addr) (zs : List Int) (c : Nat) (hc : zs.length ≤ c ∧ c ≤ maxLen) (h : RB w w.heap.size A zs) :
    Calls Try.prog 10 #[.slice A zs.length c] w fun e w' => e = .returned (.bool true) ∧ Below w.heap.size w w' := by
  have hcm := hc.2
  unfold maxLen at hcm
  by_cases hl : 1048576 < zs.length
  · go_enter Try.func10, Try.ntmps10
    go_wp2
    go_ret
    exact ⟨rfl, Below.refl _ _⟩
  go_enter Try.func10, Try.ntmps10
  go_wp2_with fail
  refine (drawSetsWith A zs c w h hc.1 hc.2).mono ?_
  rintro e w1 ⟨p, b, rfl, hp0, hp1, hb0, hb1, hB⟩
  clear h hc hcm hl
  have hs1 := hB.size
  have e1 : eqL (swL p b) (swL p b) = true := eqL_self _
  go_wp2_with fail
  refine (setsWith p b _).mono ?_
  rintro e w2 ⟨A2, n2, c2, rfl, hO2, hb2⟩
  have hB2 := hB.trans (hb2.mono hs1)
  have hN2 : n2 ≤ 256 := by have := hO2.len; have := sw_len p b; omega
  go_wp2_with fail
  refine (setsWithS p b _).mono ?_
  rintro e w3 ⟨A3, n3, c3, rfl, hO3, hb3⟩
  have hs2 := hB2.size
  have hB3 := hB2.trans (hb3.mono hs2)
  have hN3 : n3 ≤ 256 := by have := hO3.len; have := sw_len p b; omega
  replace hO2 := hO2.below hb3 (Nat.le_refl _)
  go_wp2_with fail
  refine (sameInts' _ _ _ _ _ _ _ _ _ hO2.reads hO3.reads (by omega) (by omega)).mono ?_
  rintro e w4 ⟨rfl, hb4⟩
  have hs3 := hB3.size
  have hB4 := hB3.trans (hb4.mono hs3)
  replace hO2 := hO2.below hb4 (Nat.le_refl _)
  have HL2 := Lib.hid hO2.len
  clear hO3
  by_cases hok : 1 ≤ p ∧ p ≤ 8 ∧ 0 ≤ b ∧ b ≤ 4
  · obtain ⟨o0, o1, o2, o3⟩ := hok
    obtain ⟨z0, z1⟩ := sw_zero o0 o1 o2 o3
    obtain ⟨np, rfl⟩ : ∃ n : Nat, p = (n : Int) := ⟨p.toNat, by omega⟩
    rw [Int.toNat_natCast] at z0
    have hp2 : (2 : Int) ^ np = (n2 : Int) := by rw [← HL2.out, z0]; push_cast; rfl
    have HW2 := Lib.hid (show wrap64 (n2 : Int) = (n2 : Int) by unfold wrap64; omega)
    have hn0 : 0 < n2 := by rw [← HL2.out, z0]; exact Nat.pos_of_ne_zero (by simp)
    have hz : ((n2 : Int) == 0) = false := by simp; omega
    have hS := fun (s : Nat) (v : Int) (hv : (swL (np : Int) b)[s]? = some v) => sw_law o0 o1 o2 o3 hv
    have HS := Lib.hid hS
    have HZ := Lib.hid z1
    have HZ0 := Lib.hid z0
    have hO2r := hO2.reads
    clear z0 z1 hS
    have hs4 := hB4.size
    go_wp2_with fail
    refine (setsWith (np : Int) (b + 1) _).mono ?_
    rintro e w5 ⟨A5, n5, c5, rfl, hO5, hb5⟩
    have hB5 := hB4.trans (hb5.mono hs4)
    have hN5 : n5 ≤ 256 := by have := hO5.len; have := sw_len (np : Int) (b + 1); omega
    have hO5r := hO5.reads
    have hO2s : RI w5 w5.heap.size A2 n2 (swL (np : Int) b) := hO2r.up (Nat.le_refl _) hb5 (Nat.le_refl _)
    have hL5 : b = 4 ∧ n5 = 0 ∨ b < 4 ∧ n5 = n2 := by
      have h5 := hO5.len
      by_cases hb4 : b = 4
      · left
        rw [sw_none (by omega)] at h5
        exact ⟨hb4, h5.symm⟩
      · right
        have := (sw_zero (b := b + 1) o0 o1 (by omega) (by omega)).1
        rw [Int.toNat_natCast] at this
        exact ⟨by omega, by rw [← h5, this, ← HZ0.out, HL2.out]⟩
    have HL5 := Lib.hid hL5
    clear hO2 hO5 hO2r hL5
    go_wp2
    go_loopw [7] (fun i wr => ∃ k nd : Nat, k ≤ n2 ∧ i = .int .i64 k ∧ wr = w5.drewN nd) (fun i _ => n2 - (intOf i).toNat)
    case atStart => exact ⟨0, 0, by omega, rfl, rfl⟩
    case round =>
      obtain ⟨k, nd, hk, rfl, rfl⟩ := hrel
      by_cases hlt : k < n2
      · obtain ⟨ad, v, rfl, hbv, hv, hcv⟩ := hO2s.at_ (k := k) hlt
        have hS := HS.out k v hv
        obtain ⟨v0, v1, hv2, hv3⟩ := hS
        have hcv' : ∀ nq, (w5.drewN nq).cell? (ad.add k) = some (.int .i64 v) := fun _ => hcv
        have hk0 : (0 : Int) ≤ (k : Int) := by omega
        have hkn : (k : Int) < (n2 : Int) := by omega
        have hHV3 := Lib.hid hv3
        clear hv hv3 hcv
        rcases hv2 with hv2 | ⟨hv2, hp2', hp3, hp4⟩
        · have hd : decide (0 ≤ v) = false := by simp; omega
          go_wp2
          go_quiet (fail)
          go_wp2
          go_quiet (fail)
          go_wp2
          go_roundw
          case rel => exact ⟨k + 1, _, by omega, by go_num, by first | rfl | (rw [World.drewN_drewN])⟩
          case measure => simp [intOf]; omega
        · have hd : decide (0 ≤ v) = true := by simpa using hv2
          obtain ⟨P, hP⟩ : ∃ P, pebI (np : Int) (k : Int) = P := ⟨_, rfl⟩
          rw [hP] at hp2' hp3 hp4
          have hPB := fun (a nq : Nat) => (pebblesOn (np : Int) (k : Int) (w5.drewN (a + nq))).mono (R' := fun e w'' => e = .returned (.int .i64 P) ∧ ∃ m, w'' = w5.drewN (a + m)) fun _ _ ⟨he, hw⟩ => ⟨by rw [he, hP], nq, hw.symm⟩
          have HPB := Lib.hid hPB
          have hdb : decide (b < P) = false := by simp; omega
          have hq1 : v.tmod 2 = v % 2 := Int.tmod_eq_emod_of_nonneg hv2
          have hq2 : P.tmod 2 = P % 2 := Int.tmod_eq_emod_of_nonneg hp3
          have hq3 : (v % 2 != P % 2) = false := by rw [hp4]; simp
          clear hP hPB hp4
          rcases HL5.out with ⟨rfl, rfl⟩ | ⟨hb4, hn5⟩
          · have hne : (((0 : Nat) : Int) == (n2 : Int)) = false := by simp; omega
            have hne' : ((0 : Int) == (n2 : Int)) = false := by simp; omega
            clear hHV3 hne hz
            go_wp2
            go_quiet ((go_at_call 34; go_loud (exact HPB.out _ _)))
            go_wp2
            go_quiet (fail)
            go_wp2
            go_roundw
            case rel => (repeat apply Exists.intro); exact ⟨⟨k + 1, _, by omega, by go_num, by first | rfl | (rw [World.drewN_drewN])⟩, rfl⟩
            case measure => simp [intOf]; omega
          · subst hn5
            have hm := hHV3.out
            rcases hm with hm | ⟨m, hm1, m0, m1, m2⟩
            · omega
            · obtain ⟨md, m', rfl, hbm, hm', hcm⟩ := hO5r.at_ (k := k) hlt
              obtain rfl : m' = m := by rw [hm1] at hm'; exact (Option.some.inj hm').symm
              have hcm' : ∀ nq, (w5.drewN nq).cell? (md.add k) = some (.int .i64 m') := fun _ => hcm
              obtain ⟨m3, m4⟩ := m2 hv2
              have hdm : decide (m' < 0) = false := by simp; omega
              have hdv : decide (v < m') = false := by simp; omega
              have heq : ((n5 : Int) == (n5 : Int)) = true := by simp
              clear hm1 hm' hcm m2 hHV3
              go_wp2
              go_quiet ((go_at_call 34; go_loud (exact HPB.out _ _)))
              go_wp2
              go_quiet (fail)
              go_wp2
              go_roundw
              case rel => exact ⟨k + 1, _, by omega, by go_num, by first | rfl | (rw [World.drewN_drewN])⟩
              case measure => simp [intOf]; omega
      · obtain rfl : k = n2 := by omega
        obtain ⟨ad, v, rfl, hbv, hv, hcv⟩ := hO2s.at_ (k := 0) (by omega)
        obtain rfl : v = 0 := by rw [HZ.out] at hv; exact (Option.some.inj hv).symm
        have hw2 := HW2.out
        have h0 : ad.add 0 = ad := by unfold Addr.add; split <;> simp_all
        have hc1 : ∀ nq, (w5.drewN nq).cell? (ad.add 0) = some (.int .i64 0) := fun _ => hcv
        have hc2 : ∀ nq, (w5.drewN nq).cell? ad = some (.int .i64 0) := fun nq => by have := hc1 nq; rwa [h0] at this
        clear hv h0 hcv
        go_wp2
        go_ret
        exact ⟨rfl, below_drewN hB5 nd⟩
  · have hz : n2 = 0 := by have := HL2.out; rw [sw_none hok] at this; exact this.symm
    subst hz
    clear hO2
    go_wp2_with (go_at_call 24; refine (alive _).mono ?_; rintro e w' ⟨rfl, rfl⟩)
    go_ret
    exact ⟨rfl, hB4⟩
end Go.Proofs.Ytmppiifkajmbgaa
