/- Contracts: what a rule tells for a ring; the ring behind two rings, and before them. -/
import Derived.Test.YtmbcolkhmleibaaRing2
import Derived.Test.YtmbcolkhmleibaaPlRing4
namespace Go.Proofs.Ytmbcolkhmleibaa
open Go.RowKit
set_option linter.unusedVariables false

theorem getD_at {zs : List Int} {k : Nat} {x : Int} (h : zs[k]? = some x) : zs.getD k 0 = x := by rw [List.getD_eq_getElem?_getD, h]; rfl
/-- the three places of a round -/
theorem rc_at {rule : Int} {zs : List Int} {n k p q : Nat} {x y z : Int} (hn : zs.length = n) (hp : (k + n - 1) % n = p) (hq : (k + 1) % n = q) (hx : zs[p]? = some x) (hy : zs[k]? = some y) (hz : zs[q]? = some z) : rcI rule zs k = rbI rule x y z := by
  unfold rcI; rw [hn, hp, hq, getD_at hx, getD_at hy, getD_at hz]

set_option maxHeartbeats 2000000 in
theorem ruled_ (rule : Int) (A : Option Addr) (n : Nat) (zs : List Int) (c : Nat) (w : World) (hr : RI w w.heap.size A n zs) (hv : rvB zs = true) :
    Calls Try.prog 38 #[.int .i64 rule, .slice A n c] w (GivesI w (ruledL rule zs)) := by
  have hlen := hr.len
  have hn3 : 3 ≤ n ∧ n ≤ 12 := by have := rv_len hv; omega
  obtain ⟨hn0, hn1⟩ := hn3
  have HL := Lib.hid hlen
  have hT0 : (ruledL rule zs).take n = ruledL rule zs := List.take_of_length_le (by rw [ruled_len, hlen]; exact Nat.le_refl _)
  have HT0 := Lib.hid hT0
  clear hlen hv hT0
  go_enter Try.func38, Try.ntmps38
  go_wp2_with (at_make; refine wpList_mk0 _ rfl _ _ rfl n _ rfl rfl (by omega) (by omega) ?_; intro w1 hO1 hg1)
  have hb1 : Below w.heap.size w w1 := grown_below hg1
  go_loopw [6, 15] (fun v i wr => ∃ (k : Nat) (A' : Option Addr) (c' : Nat), k ≤ n ∧ i = .int .i64 k ∧ v = .slice A' k c' ∧ OS wr w.heap.size A' k c' ((ruledL rule zs).take k) ∧ Below w.heap.size w wr)
    (fun _ i _ => n - (intOf i).toNat)
  case atStart => exact ⟨0, _, _, by omega, rfl, rfl, hO1, hb1⟩
  case round =>
    obtain ⟨k, A', c', hk, rfl, rfl, hO, hB⟩ := hrel
    have HO := Lib.hid hO
    have hs := hB.size
    have hr1 := hr.below hB
    clear hO
    by_cases hlt : k < n
    · have hp : (k + n - 1) % n < n := Nat.mod_lt _ (by omega)
      have hq : (k + 1) % n < n := Nat.mod_lt _ (by omega)
      obtain ⟨p, hpe⟩ : ∃ p, (k + n - 1) % n = p := ⟨_, rfl⟩
      obtain ⟨q, hqe⟩ : ∃ q, (k + 1) % n = q := ⟨_, rfl⟩
      have hmp : ((k : Int) + (n : Int) - 1) % (n : Int) = (p : Int) := by rw [← hpe]; push_cast; rw [Int.ofNat_sub (by omega)]; push_cast; rfl
      have hmq : ((k : Int) + 1) % (n : Int) = (q : Int) := by rw [← hqe]; push_cast; rfl
      rw [hpe] at hp
      rw [hqe] at hq
      have htp : ((k : Int) + (n : Int) - 1).tmod (n : Int) = (p : Int) := by rw [← hmp]; exact Int.tmod_eq_emod_of_nonneg (by omega)
      have htq : ((k : Int) + 1).tmod (n : Int) = (q : Int) := by rw [← hmq]; exact Int.tmod_eq_emod_of_nonneg (by omega)
      have hnz : ¬ n = 0 := by omega
      have hw1 : IntKind.i64.wrap ((k : Int) + (n : Int)) = (k : Int) + (n : Int) := by rw [IntKind.wrap_i64]; omega
      have hw2 : IntKind.i64.wrap ((k : Int) + (n : Int) - 1) = (k : Int) + (n : Int) - 1 := by rw [IntKind.wrap_i64]; omega
      have hw3 : IntKind.i64.wrap ((k : Int) + 1) = (k : Int) + 1 := by rw [IntKind.wrap_i64]; omega
      obtain ⟨ad, y, rfl, hby, hy, hcy⟩ := hr1.at_ (k := k) hlt
      obtain ⟨ad2, x, e2, hbx, hx, hcx⟩ := hr1.at_ (k := p) hp
      obtain rfl : ad = ad2 := by injection e2
      obtain ⟨ad3, z, e3, hbz, hz, hcz⟩ := hr1.at_ (k := q) hq
      obtain rfl : ad = ad3 := by injection e3
      have hT := ruled_take rule zs (k := k) (by rw [HL.out]; exact hlt)
      rw [rc_at HL.out hpe hqe hx hy hz] at hT
      have HT := Lib.hid hT
      clear hx hy hz hT hpe hqe e2 e3
      go_wp2
      go_region_law (first | (refine step_push _ (rbI rule x y z) rfl _ _ rfl w.heap.size A' k c' ((ruledL rule zs).take k) (by simp [Act.eval]) (by simp [Act.eval]) HO.out (by omega) hs ⟨1, rfl⟩ ?_; intro g c2 w2 hO2 hg2) | (go_simp; go_at_call 55; refine (ruleBit _ _ _ _ _).mono ?_; rintro e w' ⟨rfl, rfl⟩))
      all_goals go_wp2
      all_goals
        have hB2 : Below w.heap.size w w2 := hB.grown hg2 hs (fun q e => (HO.out.lt q e).1)
        go_roundw
        case rel => exact ⟨k + 1, _, _, by omega, by go_num, rfl, by rw [HT.out]; exact hO2, hB2⟩
        case measure => simp [intOf]; omega
    · obtain rfl : k = n := by omega
      go_wp2
      go_ret
      exact ⟨_, _, _, rfl, by have := HO.out.toI; rwa [HT0.out] at this, hB⟩
theorem ruleRing (rule : Int) (A : Option Addr) (n : Nat) (zs : List Int) (c : Nat) (w : World) (hr : RI w w.heap.size A n zs) (hl : n ≤ 1048576) :
    Calls Try.prog 13 #[.int .i64 rule, .slice A n c] w (GivesI w (rrL rule zs)) := by
  cases hu : inB rule 0 255 <;> cases hv : rvB zs
  case true.true =>
    have hL : rrL rule zs = ruledL rule zs := by simp [rrL, hu, hv]
    rw [hL]
    clear hL
    go_enter Try.func13, Try.ntmps13
    go_wp2_with (first | (go_at_call 37; refine (ruleOk _ _).mono ?_; rintro e w' ⟨rfl, rfl⟩) | (go_at_call 23; refine (ringValid A n zs _ _ hr (by omega)).mono ?_; rintro e w' ⟨rfl, rfl⟩))
    refine (ruled_ rule A n zs _ w hr hv).mono ?_
    rintro e w2 ⟨A2, n2, c2, rfl, hO2, hB2⟩
    go_wp2
    go_ret
    exact ⟨_, _, _, rfl, hO2, hB2⟩
  all_goals
    have hL : rrL rule zs = [] := by simp [rrL, hu, hv]
    rw [hL]
    clear hL
    go_enter Try.func13, Try.ntmps13
    go_wp2_with (first | (go_at_call 37; refine (ruleOk _ _).mono ?_; rintro e w' ⟨rfl, rfl⟩) | (go_at_call 23; refine (ringValid A n zs _ _ hr (by omega)).mono ?_; rintro e w' ⟨rfl, rfl⟩))
    go_ret
    exact GivesI.nil w
theorem ringNext (rule : Int) (A : Option Addr) (n : Nat) (xs : List Int) (c : Nat) (B : Option Addr) (m : Nat) (ys : List Int) (d : Nat) (w : World) (hr : RI w w.heap.size A n xs) (hl : n ≤ 1048576) (hr' : RI w w.heap.size B m ys) (hl' : m ≤ 1048576) :
    Calls Try.prog 18 #[.int .i64 rule, .slice A n c, .slice B m d] w (GivesI w (rnL rule xs ys)) := by
  cases hu : inB rule 0 255 <;> cases hp : pairB xs ys
  case true.true =>
    have hL : rnL rule xs ys = sumL (ruledL rule ys) xs := by simp [rnL, hu, hp]
    rw [hL]
    clear hL
    have hpr := pair_ruled hu hp
    have hv := (pair_iff.1 hp).2.1
    obtain rfl : n = m := by rw [← hr.len, ← hr'.len]; exact (pair_iff.1 hp).2.2
    go_enter Try.func18, Try.ntmps18
    go_wp2_with (first | (go_at_call 37; refine (ruleOk _ _).mono ?_; rintro e w' ⟨rfl, rfl⟩) | (go_at_call 39; refine (pairOk A n xs _ B n ys _ _ hr (by omega) hr' (by omega)).mono ?_; rintro e w' ⟨rfl, rfl⟩))
    refine (ruled_ rule B n ys _ w hr' hv).mono ?_
    rintro e w2 ⟨A2, n2, c2, rfl, hO2, hB2⟩
    have hn2 : n2 = n := by rw [← hO2.len, ruled_len, hr'.len]
    subst hn2
    go_wp2_with fail
    refine (ringSum A2 A n2 (ruledL rule ys) xs _ _ w2 hpr hO2.reads (hr.up (Nat.le_refl _) hB2 (Nat.le_refl _))).mono ?_
    rintro e w3 ⟨A3, n3, c3, rfl, hO3, hB3⟩
    go_wp2
    go_ret
    exact ⟨_, _, _, rfl, hO3.mono hB2.size, hB2.trans (hB3.mono hB2.size)⟩
  all_goals
    have hL : rnL rule xs ys = [] := by simp [rnL, hu, hp]
    rw [hL]
    clear hL
    go_enter Try.func18, Try.ntmps18
    go_wp2_with (first | (go_at_call 37; refine (ruleOk _ _).mono ?_; rintro e w' ⟨rfl, rfl⟩) | (go_at_call 39; refine (pairOk A n xs _ B m ys _ _ hr (by omega) hr' (by omega)).mono ?_; rintro e w' ⟨rfl, rfl⟩))
    go_ret
    exact GivesI.nil w
theorem ringBefore (rule : Int) (A : Option Addr) (n : Nat) (xs : List Int) (c : Nat) (B : Option Addr) (m : Nat) (ys : List Int) (d : Nat) (w : World) (hr : RI w w.heap.size A n xs) (hl : n ≤ 1048576) (hr' : RI w w.heap.size B m ys) (hl' : m ≤ 1048576) :
    Calls Try.prog 29 #[.int .i64 rule, .slice A n c, .slice B m d] w (GivesI w (rnL rule ys xs)) := by
  go_enter Try.func29, Try.ntmps29
  go_wp2_with fail
  refine (ringNext rule B m ys _ A n xs _ w hr' hl' hr hl).mono ?_
  rintro e w2 ⟨A2, n2, c2, rfl, hO2, hB2⟩
  go_wp2
  go_ret
  exact ⟨_, _, _, rfl, hO2, hB2⟩
set_option maxHeartbeats 2000000 in
theorem ruleRingS (rule : Int) (A : Option Addr) (n : Nat) (zs : List Int) (c : Nat) (w : World) (hr : RI w w.heap.size A n zs) (hl : n ≤ 1048576) :
    Calls Try.prog 11 #[.int .i64 rule, .slice A n c] w (GivesI w (rrL rule zs)) := by
  have hE := OS.empty w
  have hbE : Below w.heap.size w (w.alloc (.cells #[] 3)) := (Below.refl _ _).alloc (Nat.le_refl _) _
  cases hu : inB rule 0 255 <;> cases hv : rvB zs
  case true.true =>
    have hL : rrL rule zs = ruledL rule zs := by simp [rrL, hu, hv]
    rw [hL]
    clear hL
    have hlen := hr.len
    have hn3 : 3 ≤ n ∧ n ≤ 12 := by have := rv_len hv; omega
    obtain ⟨hn0, hn1⟩ := hn3
    have HL := Lib.hid hlen
    have hT0 : (ruledL rule zs).take n = ruledL rule zs := List.take_of_length_le (by rw [ruled_len, hlen]; exact Nat.le_refl _)
    have HT0 := Lib.hid hT0
    clear hlen hT0
    go_enter Try.func11, Try.ntmps11
    go_wp2
    go_loopw [5, 7] (fun v i wr => ∃ (k : Nat) (A' : Option Addr) (c' : Nat), k ≤ n ∧ i = .int .i64 k ∧ v = .slice A' k c' ∧ OS wr w.heap.size A' k c' ((ruledL rule zs).take k) ∧ Below w.heap.size w wr)
      (fun _ i _ => n - (intOf i).toNat)
    case atStart => exact ⟨0, _, _, by omega, rfl, rfl, hE, hbE⟩
    case round =>
      obtain ⟨k, A', c', hk, rfl, rfl, hO, hB⟩ := hrel
      have HO := Lib.hid hO
      have hs := hB.size
      have hr1 : RI wr wr.heap.size A n zs := hr.up (Nat.le_refl _) hB (Nat.le_refl _)
      clear hO hE hbE
      by_cases hlt : k < n
      · have hp : (k + n - 1) % n < n := Nat.mod_lt _ (by omega)
        have hq : (k + 1) % n < n := Nat.mod_lt _ (by omega)
        obtain ⟨p, hpe⟩ : ∃ p, (k + n - 1) % n = p := ⟨_, rfl⟩
        obtain ⟨q, hqe⟩ : ∃ q, (k + 1) % n = q := ⟨_, rfl⟩
        have hmp : ((k : Int) + (n : Int) - 1) % (n : Int) = (p : Int) := by rw [← hpe]; push_cast; rw [Int.ofNat_sub (by omega)]; push_cast; rfl
        have hmq : ((k : Int) + 1) % (n : Int) = (q : Int) := by rw [← hqe]; push_cast; rfl
        rw [hpe] at hp
        rw [hqe] at hq
        have htp : ((k : Int) + (n : Int) - 1).tmod (n : Int) = (p : Int) := by rw [← hmp]; exact Int.tmod_eq_emod_of_nonneg (by omega)
        have htq : ((k : Int) + 1).tmod (n : Int) = (q : Int) := by rw [← hmq]; exact Int.tmod_eq_emod_of_nonneg (by omega)
        have hnz : ¬ n = 0 := by omega
        have hw1 : IntKind.i64.wrap ((k : Int) + (n : Int)) = (k : Int) + (n : Int) := by rw [IntKind.wrap_i64]; omega
        have hw2 : IntKind.i64.wrap ((k : Int) + (n : Int) - 1) = (k : Int) + (n : Int) - 1 := by rw [IntKind.wrap_i64]; omega
        have hw3 : IntKind.i64.wrap ((k : Int) + 1) = (k : Int) + 1 := by rw [IntKind.wrap_i64]; omega
        obtain ⟨ad, y, rfl, hby, hy, hcy⟩ := hr1.at_ (k := k) hlt
        obtain ⟨ad2, x, e2, hbx, hx, hcx⟩ := hr1.at_ (k := p) hp
        obtain rfl : ad = ad2 := by injection e2
        obtain ⟨ad3, z, e3, hbz, hz, hcz⟩ := hr1.at_ (k := q) hq
        obtain rfl : ad = ad3 := by injection e3
        have hT := ruled_take rule zs (k := k) (by rw [HL.out]; exact hlt)
        rw [rc_at HL.out hpe hqe hx hy hz] at hT
        have HT := Lib.hid hT
        clear hx hy hz hT hpe hqe e2 e3
        go_wp2_with (first | (go_at_call 34; refine (ringValidS _ _ zs _ _ hr1 (by omega)).mono ?_; rintro e w' ⟨rfl, rfl⟩) | (go_at_call 35; refine (l1In _ _ _ _).mono ?_; rintro e w' ⟨rfl, rfl⟩))
        go_region_law (first | (refine step_push _ (rbI rule x y z) rfl _ _ rfl w.heap.size A' k c' ((ruledL rule zs).take k) (by simp [Act.eval]) (by simp [Act.eval]) HO.out (by omega) hs ⟨1, rfl⟩ ?_; intro g c2 w2 hO2 hg2) | (go_simp; go_at_call 36; refine (ruleBitS _ _ _ _ _).mono ?_; rintro e w' ⟨rfl, rfl⟩))
        all_goals go_wp2
        all_goals
          have hB2 : Below w.heap.size w w2 := hB.grown hg2 hs (fun q e => (HO.out.lt q e).1)
          go_roundw
          case rel => exact ⟨k + 1, _, _, by omega, by go_num, rfl, by rw [HT.out]; exact hO2, hB2⟩
          case measure => simp [intOf]; omega
      · obtain rfl : k = n := by omega
        go_wp2
        go_ret
        exact ⟨_, _, _, rfl, by have := HO.out.toI; rwa [HT0.out] at this, hB⟩
  all_goals
    have hL : rrL rule zs = [] := by simp [rrL, hu, hv]
    rw [hL]
    have HE := Lib.hid hE
    have hr1 : RI (w.alloc (.cells #[] 3)) (w.alloc (.cells #[] 3)).heap.size A n zs := hr.up (Nat.le_refl _) hbE (Nat.le_refl _)
    clear hL hE
    by_cases h0 : n = 0
    · subst h0
      go_enter Try.func11, Try.ntmps11
      go_wp2
      refine wp_loop_rounds 1 ?_
      rw [rounds_succ]
      go_wp2
      go_ret
      exact ⟨_, _, _, rfl, HE.out.toI, hbE⟩
    · go_enter Try.func11, Try.ntmps11
      go_wp2
      refine wp_loop_rounds 1 ?_
      rw [rounds_succ]
      go_wp2_with (first | (go_at_call 34; refine (ringValidS A _ zs _ _ hr1 (by omega)).mono ?_; rintro e w' ⟨rfl, rfl⟩) | (go_at_call 35; refine (l1In _ _ _ _).mono ?_; rintro e w' ⟨rfl, rfl⟩))
      go_ret
      exact ⟨_, _, _, rfl, HE.out.toI, hbE⟩
theorem ringNextS (rule : Int) (A : Option Addr) (n : Nat) (xs : List Int) (c : Nat) (B : Option Addr) (m : Nat) (ys : List Int) (d : Nat) (w : World) (hr : RI w w.heap.size A n xs) (hl : n ≤ 1048576) (hr' : RI w w.heap.size B m ys) (hl' : m ≤ 1048576) :
    Calls Try.prog 17 #[.int .i64 rule, .slice A n c, .slice B m d] w (GivesI w (rnL rule xs ys)) := by
  rw [← rn_ra]
  have hL := rr_len rule ys
  go_enter Try.func17, Try.ntmps17
  go_wp2_with fail
  refine (ruleRingS rule B m ys _ w hr' hl').mono ?_
  rintro e w2 ⟨A2, n2, c2, rfl, hO2, hB2⟩
  have hn2 : n2 ≤ 12 := by rw [← hO2.len]; exact hL
  go_wp2_with fail
  refine (ringAddS A2 n2 _ _ A n xs _ w2 hO2.reads (by omega) (hr.up (Nat.le_refl _) hB2 (Nat.le_refl _)) hl).mono ?_
  rintro e w3 ⟨A3, n3, c3, rfl, hO3, hB3⟩
  go_wp2
  go_ret
  exact ⟨_, _, _, rfl, hO3.mono hB2.size, hB2.trans (hB3.mono hB2.size)⟩
theorem ringBeforeS (rule : Int) (A : Option Addr) (n : Nat) (xs : List Int) (c : Nat) (B : Option Addr) (m : Nat) (ys : List Int) (d : Nat) (w : World) (hr : RI w w.heap.size A n xs) (hl : n ≤ 1048576) (hr' : RI w w.heap.size B m ys) (hl' : m ≤ 1048576) :
    Calls Try.prog 28 #[.int .i64 rule, .slice A n c, .slice B m d] w (GivesI w (rnL rule ys xs)) := by
  rw [← rn_ra]
  have hL := rr_len rule xs
  go_enter Try.func28, Try.ntmps28
  go_wp2_with fail
  refine (ruleRingS rule A n xs _ w hr hl).mono ?_
  rintro e w2 ⟨A2, n2, c2, rfl, hO2, hB2⟩
  have hn2 : n2 ≤ 12 := by rw [← hO2.len]; exact hL
  go_wp2_with fail
  refine (ringAddS A2 n2 _ _ B m ys _ w2 hO2.reads (by omega) (hr'.up (Nat.le_refl _) hB2 (Nat.le_refl _)) hl').mono ?_
  rintro e w3 ⟨A3, n3, c3, rfl, hO3, hB3⟩
  go_wp2
  go_ret
  exact ⟨_, _, _, rfl, hO3.mono hB2.size, hB2.trans (hB3.mono hB2.size)⟩
end Go.Proofs.Ytmbcolkhmleibaa
