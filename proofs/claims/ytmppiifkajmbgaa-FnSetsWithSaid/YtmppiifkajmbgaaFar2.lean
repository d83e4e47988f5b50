/- Contracts: how many pebbles for a place, the least number of moves. -/
import Derived.Test.YtmppiifkajmbgaaFar
import Derived.Deep.RegionWith
namespace Go.Proofs.Ytmppiifkajmbgaa
open Go.RowKit
set_option linter.unusedVariables false

/-- the first k numbers of pebbles do not do -/
def PfInv (p : Int) (k : Nat) : Prop := k ≤ 5 ∧ ∀ j : Nat, j < k → fwI (j : Int) < p
theorem pf_hit {p : Int} {k : Nat} (hp : inB p 1 8 = true) (h : PfInv p k) (hk : k < 5) (hf : p ≤ fwI (k : Int)) : pfI p = (k : Int) := by
  have hp' := inB_iff.1 hp
  obtain ⟨_, h⟩ := h
  obtain ⟨t0, t1, t2, t3, t4⟩ := fw_t
  have hk' : k = 0 ∨ k = 1 ∨ k = 2 ∨ k = 3 ∨ k = 4 := by omega
  unfold pfI
  rw [if_pos hp]
  rcases hk' with rfl | rfl | rfl | rfl | rfl
  · have : fwI ((0 : Nat) : Int) = 0 := t0
    omega
  · have : fwI ((1 : Nat) : Int) = 1 := t1
    rw [if_pos (by omega)]; rfl
  · have : fwI ((2 : Nat) : Int) = 3 := t2
    have h1 : fwI ((1 : Nat) : Int) = 1 := t1
    have := h 1 (by omega)
    rw [if_neg (by omega), if_pos (by omega)]; rfl
  · have : fwI ((3 : Nat) : Int) = 7 := t3
    have h1 : fwI ((2 : Nat) : Int) = 3 := t2
    have := h 2 (by omega)
    rw [if_neg (by omega), if_neg (by omega), if_pos (by omega)]; rfl
  · have h1 : fwI ((3 : Nat) : Int) = 7 := t3
    have := h 3 (by omega)
    rw [if_neg (by omega), if_neg (by omega), if_neg (by omega)]; rfl
theorem pf_end {p : Int} (hp : inB p 1 8 = true) (h : PfInv p 5) : False := by
  have hp' := inB_iff.1 hp
  have := h.2 4 (by omega)
  have h4 : fwI ((4 : Nat) : Int) = 8 := fw_t.2.2.2.2
  omega
theorem PfInv.succ {p : Int} {k : Nat} (h : PfInv p k) (hk : k < 5) (hf : fwI (k : Int) < p) : PfInv p (k + 1) :=
  ⟨by omega, fun j hj => by
    by_cases e : j = k
    · subst e; exact hf
    · exact h.2 j (by omega)⟩
theorem fw_bd (b : Int) : -1 ≤ fwI b ∧ fwI b ≤ 8 := by
  unfold fwI
  split
  · repeat (first | (split; omega) | omega)
  · omega
set_option maxHeartbeats 1000000 in
theorem pebblesFor (p : Int) (w : World) : Calls Try.prog 36 #[.int .i64 p] w (IntPost w (pfI p)) := by
  cases hp : inB p 1 8
  · have hv : pfI p = -1 := by simp [pfI, hp]
    rw [hv]
    go_enter Try.func36, Try.ntmps36
    go_wp2_with (go_at_call 44; refine (within _ _ _ _).mono ?_; rintro e w' ⟨rfl, rfl⟩)
    go_ret
    exact ⟨rfl, Below.refl _ _⟩
  · have hp' := inB_iff.1 hp
    obtain ⟨hp0, hp1⟩ := hp'
    go_enter Try.func36, Try.ntmps36
    go_wp2_with (go_at_call 44; refine (within _ _ _ _).mono ?_; rintro e w' ⟨rfl, rfl⟩)
    go_loopw [7] (fun i wr => ∃ k : Nat, i = .int .i64 k ∧ PfInv p k ∧ Below w.heap.size w wr) (fun i _ => 5 - (intOf i).toNat)
    case atStart => exact ⟨0, rfl, ⟨by omega, fun j hj => absurd hj (by omega)⟩, Below.refl _ _⟩
    case round =>
      obtain ⟨k, rfl, hI, hB⟩ := hrel
      have hk5 : k ≤ 5 := hI.1
      by_cases hlt : k < 5
      · have hs := hB.size
        by_cases hf : p ≤ fwI (k : Int)
        · go_wp2_with fail
          refine (farWith _ _).mono ?_
          rintro e w2 ⟨rfl, hb2⟩
          go_wp2
          go_ret
          exact ⟨ret_int (pf_hit hp hI hlt hf).symm, hB.trans (hb2.mono hs)⟩
        · have hf' : fwI (k : Int) < p := by omega
          clear hf
          go_wp2_with fail
          refine (farWith _ _).mono ?_
          rintro e w2 ⟨rfl, hb2⟩
          go_wp2
          go_roundw
          case rel => exact ⟨k + 1, by go_num, hI.succ hlt hf', hB.trans (hb2.mono hs)⟩
          case measure => simp [intOf]; omega
      · obtain rfl : k = 5 := by omega
        exact (pf_end hp hI).elim
set_option maxHeartbeats 1000000 in
theorem pebblesForS (p : Int) (w : World) : Calls Try.prog 35 #[.int .i64 p] w (IntPost w (pfI p)) := by
  cases hp : inB p 1 8
  · have hv : pfI p = -1 := by simp [pfI, hp]
    rw [hv]
    go_enter Try.func35, Try.ntmps35
    go_wp2
    refine wp_loop_rounds 1 ?_
    rw [rounds_succ]
    go_wp2_with (go_at_call 40; refine (l1In _ _ _ _).mono ?_; rintro e w' ⟨rfl, rfl⟩)
    go_ret
    exact ⟨rfl, Below.refl _ _⟩
  · have hp' := inB_iff.1 hp
    obtain ⟨hp0, hp1⟩ := hp'
    go_enter Try.func35, Try.ntmps35
    go_wp2
    go_loopw [3] (fun i wr => ∃ k : Nat, i = .int .i64 k ∧ PfInv p k ∧ Below w.heap.size w wr) (fun i _ => 5 - (intOf i).toNat)
    case atStart => exact ⟨0, rfl, ⟨by omega, fun j hj => absurd hj (by omega)⟩, Below.refl _ _⟩
    case round =>
      obtain ⟨k, rfl, hI, hB⟩ := hrel
      have hk5 : k ≤ 5 := hI.1
      by_cases hlt : k < 5
      · have hs := hB.size
        have hk4 : (k : Int) ≤ 4 := by omega
        by_cases hf : p ≤ fwI (k : Int)
        · go_wp2_with (first | (go_at_call 40; refine (l1In _ _ _ _).mono ?_; rintro e w' ⟨rfl, rfl⟩) | (go_at_call 31; refine (farWithS _ _).mono ?_; rintro e w2 ⟨rfl, hb2⟩))
          go_ret
          exact ⟨ret_int (pf_hit hp hI hlt hf).symm, hB.trans (hb2.mono hs)⟩
        · have hf' : fwI (k : Int) < p := by omega
          clear hf
          go_wp2_with (first | (go_at_call 40; refine (l1In _ _ _ _).mono ?_; rintro e w' ⟨rfl, rfl⟩) | (go_at_call 31; refine (farWithS _ _).mono ?_; rintro e w2 ⟨rfl, hb2⟩))
          go_roundw
          case rel => exact ⟨k + 1, by go_num, hI.succ hlt hf', hB.trans (hb2.mono hs)⟩
          case measure => simp [intOf]; omega
      · obtain rfl : k = 5 := by omega
        exact (pf_end hp hI).elim
theorem lm_no {p b : Int} (h : (inB p 1 8 && inB b 0 4) = false) : lmI p b = -1 := by rw [lmI, if_neg (by simp [h])]
theorem lm_yes {p b : Int} (h : (inB p 1 8 && inB b 0 4) = true) : lmI p b = (swL p b).getD (2 ^ (p.toNat - 1)) 0 := by rw [lmI, swL, if_pos h, if_pos h]
theorem lm_at {p b : Int} {ls : List Int} {j : Nat} {x : Int} (h : (inB p 1 8 && inB b 0 4) = true) (hs : swL p b = ls) (hj : 2 ^ (p.toNat - 1) = j) (hx : ls[j]? = some x) : lmI p b = x := by
  rw [lm_yes h, hs, hj, List.getD_eq_getElem?_getD, hx]; rfl
set_option maxHeartbeats 2000000 in
theorem leastMovesS (p b : Int) (w : World) : Calls Try.prog 26 #[.int .i64 p, .int .i64 b] w (IntPost w (lmI p b)) := by
  cases h : (inB p 1 8 && inB b 0 4)
  · rw [lm_no h]
    have hs : swL p b = [] := by rw [swL, if_neg (by simp [h])]
    have HS := Lib.hid hs
    clear hs
    go_enter Try.func26, Try.ntmps26
    go_wp2_with fail
    refine (setsWithS p b _).mono ?_
    rintro e w1 ⟨A1, n1, c1, rfl, hO1, hB1⟩
    obtain rfl : n1 = 0 := by have := hO1.len; rw [HS.out] at this; exact this.symm
    clear hO1
    go_wp2
    go_ret
    exact ⟨rfl, hB1⟩
  · have hpb := h
    simp only [Bool.and_eq_true] at hpb
    have hp' := inB_iff.1 hpb.1
    have hb' := inB_iff.1 hpb.2
    have hlen : (swL p b).length = 2 ^ p.toNat := by
      rw [swL, if_pos h]
      obtain ⟨np, rfl⟩ : ∃ n : Nat, p = (n : Int) := ⟨p.toNat, by omega⟩
      obtain ⟨nb, rfl⟩ : ∃ n : Nat, b = (n : Int) := ⟨b.toNat, by omega⟩
      exact bfs_len (by omega) (by omega) (by omega)
    have hat := fun ls j x => lm_at (p := p) (b := b) (ls := ls) (j := j) (x := x) h
    have HAT := Lib.hid hat
    have hR := fun w => setsWithS p b w
    obtain ⟨ls, hls⟩ : ∃ ls, swL p b = ls := ⟨_, rfl⟩
    simp only [hls] at hR
    rw [hls] at hlen
    have HLS := Lib.hid hls
    have HR := Lib.hid hR
    have HL := Lib.hid hlen
    clear hat hls hR hlen hb' hpb h
    obtain ⟨np, rfl⟩ : ∃ n : Nat, p = (n : Int) := ⟨p.toNat, by omega⟩
    have hp1 : 1 ≤ np := by omega
    have hp8 : np ≤ 8 := by omega
    obtain ⟨j, hj⟩ : ∃ j, 2 ^ (np - 1) = j := ⟨_, rfl⟩
    have hN : 2 ^ np = 2 * j := by rw [← hj, show np = (np - 1) + 1 from by omega, Nat.pow_succ, Nat.add_sub_cancel]; omega
    have hj1 : 1 ≤ j := by rw [← hj]; exact Nat.one_le_two_pow
    have hj2 : j ≤ 256 := by have := pow_le8 hp8; omega
    have hpow : (2 : Int) ^ (np - 1) = (j : Int) := by rw [← hj]; push_cast; rfl
    have hwj : wrap64 (j : Int) = (j : Int) := by unfold wrap64; omega
    have HJ := Lib.hid (show 2 ^ ((np : Int).toNat - 1) = j by rw [← hj, Int.toNat_natCast])
    have HN := Lib.hid hN
    clear hp' hj hN
    go_enter Try.func26, Try.ntmps26
    go_wp2_with fail
    refine (HR.out _).mono ?_
    rintro e w1 ⟨A1, n1, c1, rfl, hO1, hB1⟩
    have hn : n1 = 2 * j := by rw [← hO1.len, ← HN.out]; exact HL.out
    have hz : ((n1 : Int) == 0) = false := by simp; omega
    have hjn : j < n1 := by omega
    have hn256 : n1 ≤ 512 := by omega
    obtain ⟨ad, x, rfl, hbx, hx, hcx⟩ := hO1.reads.at_ (k := j) hjn
    have HX := Lib.hid (HAT.out ls j x HLS.out HJ.out hx)
    clear hO1 hx hn
    go_wp2
    go_ret
    exact ⟨ret_int HX.out.symm, hB1⟩
set_option maxHeartbeats 2000000 in
theorem leastMoves (p b : Int) (w : World) : Calls Try.prog 27 #[.int .i64 p, .int .i64 b] w (IntPost w (lmI p b)) := by
  cases hp : inB p 1 8 <;> cases hb : inB b 0 4
  case true.true =>
    have h : (inB p 1 8 && inB b 0 4) = true := by simp [hp, hb]
    have hp' := inB_iff.1 hp
    have hb' := inB_iff.1 hb
    have hat := fun ls j x => lm_at (p := p) (b := b) (ls := ls) (j := j) (x := x) h
    have HAT := Lib.hid hat
    have hswb : swL p b = bfs p b := by rw [swL, if_pos h]
    clear hat h
    obtain ⟨np, rfl⟩ : ∃ n : Nat, p = (n : Int) := ⟨p.toNat, by omega⟩
    obtain ⟨nb, rfl⟩ : ∃ n : Nat, b = (n : Int) := ⟨b.toNat, by omega⟩
    have hp1 : 1 ≤ np := by omega
    have hp8 : np ≤ 8 := by omega
    have hb4 : nb ≤ 4 := by omega
    have hlen := bfs_len hp1 hp8 hb4
    have hR := fun w => reached np nb w hp1 hp8 hb4
    obtain ⟨ls, hls⟩ : ∃ ls, bfs (np : Int) (nb : Int) = ls := ⟨_, rfl⟩
    simp only [hls] at hR
    rw [hls] at hlen hswb
    have HLS := Lib.hid hswb
    have HR := Lib.hid hR
    have HL := Lib.hid hlen
    clear hls hR hlen hb' hswb
    obtain ⟨j, hj⟩ : ∃ j, 2 ^ (np - 1) = j := ⟨_, rfl⟩
    have hN : 2 ^ np = 2 * j := by rw [← hj, show np = (np - 1) + 1 from by omega, Nat.pow_succ, Nat.add_sub_cancel]; omega
    have hj1 : 1 ≤ j := by rw [← hj]; exact Nat.one_le_two_pow
    have hj2 : j ≤ 256 := by have := pow_le8 hp8; omega
    have hpow : (2 : Int) ^ (np - 1) = (j : Int) := by rw [← hj]; push_cast; rfl
    have hwj : wrap64 (j : Int) = (j : Int) := by unfold wrap64; omega
    have hwj' : IntKind.i64.wrap (j : Int) = (j : Int) := by rw [IntKind.wrap_i64]; omega
    have hwp : IntKind.i64.wrap ((np : Int) - 1) = (np : Int) - 1 := by rw [IntKind.wrap_i64]; omega
    have HJ := Lib.hid (show 2 ^ ((np : Int).toNat - 1) = j by rw [← hj, Int.toNat_natCast])
    have HN := Lib.hid hN
    clear hp' hj hN
    go_enter Try.func27, Try.ntmps27
    go_wp2_with (first | (go_at_call 41; refine (placesOk _ _).mono ?_; rintro e w' ⟨rfl, rfl⟩) | (go_at_call 52; refine (pebblesOk _ _).mono ?_; rintro e w' ⟨rfl, rfl⟩))
    go_region_with (go_at_call 53; refine (HR.out _).mono ?_; rintro e w1 ⟨A1, n1, c1, rfl, hO1, hB1⟩; have hn : n1 = 2 * j := (hO1.len.symm.trans (HL.out.trans HN.out)); have hjn : j < n1 := (by omega); have hn256 : n1 ≤ 512 := (by omega); obtain ⟨ad, x, rfl, hbx, hx, hcx⟩ := hO1.reads.at_ (k := j) hjn; have HX := Lib.hid (HAT.out ls j x HLS.out HJ.out hx); clear hO1 hx hn)
    all_goals go_wp2
    all_goals
      go_ret
      exact ⟨ret_int HX.out.symm, (show Below w.heap.size w w.drew from below_drewN (Below.refl _ w) 1).trans hB1⟩
  all_goals
    rw [lm_no (by simp [hp, hb])]
    go_enter Try.func27, Try.ntmps27
    go_wp2_with (first | (go_at_call 41; refine (placesOk _ _).mono ?_; rintro e w' ⟨rfl, rfl⟩) | (go_at_call 52; refine (pebblesOk _ _).mono ?_; rintro e w' ⟨rfl, rfl⟩))
    go_ret
    exact ⟨rfl, Below.refl _ _⟩
end Go.Proofs.Ytmppiifkajmbgaa
