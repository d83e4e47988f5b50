/- Contracts: rings turned round, added, shifted. -/
import Derived.Test.YtmbcolkhmleibaaRing
import Derived.Test.YtmbcolkhmleibaaPlRing2
import Derived.Test.YtmbcolkhmleibaaPush
import Derived.Test.YtmbcolkhmleibaaBack
namespace Go.Proofs.Ytmbcolkhmleibaa
open Go.RowKit
set_option linter.unusedVariables false

theorem ringFlip (A : Option Addr) (n : Nat) (zs : List Int) (c : Nat) (w : World) (hr : RI w w.heap.size A n zs) (hl : n ≤ 1048576) :
    Calls Try.prog 20 #[.slice A n c] w (GivesI w (rflL zs)) := by
  cases hv : rvB zs
  · have hL : rflL zs = [] := by simp [rflL, hv]
    have HL := Lib.hid hL
    clear hL
    go_enter Try.func20, Try.ntmps20
    go_wp2_with (go_at_call 23; refine (ringValid A n zs _ _ hr (by omega)).mono ?_; rintro e w' ⟨rfl, rfl⟩)
    go_ret
    rw [HL.out]
    exact GivesI.nil w
  · have hL : rflL zs = zs.reverse := by simp [rflL, hv]
    rw [hL]
    clear hL
    go_enter Try.func20, Try.ntmps20
    go_wp2_with (go_at_call 23; refine (ringValid A n zs _ _ hr (by omega)).mono ?_; rintro e w' ⟨rfl, rfl⟩)
    refine (backwards A n zs _ (by omega) w hr).mono ?_
    rintro e w2 ⟨A2, n2, c2, rfl, hO2, hB2⟩
    go_wp2
    go_ret
    exact ⟨_, _, _, rfl, hO2, hB2⟩
set_option maxHeartbeats 1000000 in
theorem ringFlipS (A : Option Addr) (n : Nat) (zs : List Int) (c : Nat) (w : World) (hr : RI w w.heap.size A n zs) (hl : n ≤ 1048576) :
    Calls Try.prog 22 #[.slice A n c] w (GivesI w (rflL zs)) := by
  obtain rfl := hr.len
  have hE := OS.empty w
  have hbE : Below w.heap.size w (w.alloc (.cells #[] 3)) := (Below.refl _ _).alloc (Nat.le_refl _) _
  cases hv : rvB zs
  · have hL : rflL zs = [] := by simp [rflL, hv]
    have HL := Lib.hid hL
    have HE := Lib.hid hE
    have hr1 : RI (w.alloc (.cells #[] 3)) (w.alloc (.cells #[] 3)).heap.size A zs.length zs := hr.up (Nat.le_refl _) hbE (Nat.le_refl _)
    clear hL hE
    by_cases h0 : zs.length = 0
    · go_enter Try.func22, Try.ntmps22
      rw [h0]
      go_wp2
      refine wp_loop_rounds 1 ?_
      rw [rounds_succ]
      go_wp2
      go_ret
      rw [HL.out]
      exact ⟨_, _, _, rfl, HE.out.toI, hbE⟩
    · go_enter Try.func22, Try.ntmps22
      go_wp2
      refine wp_loop_rounds 1 ?_
      rw [rounds_succ]
      go_wp2_with (go_at_call 34; refine (ringValidS A _ zs _ _ hr1 (by omega)).mono ?_; rintro e w' ⟨rfl, rfl⟩)
      go_ret
      rw [HL.out]
      exact ⟨_, _, _, rfl, HE.out.toI, hbE⟩
  · have hL : rflL zs = zs.reverse := by simp [rflL, hv]
    have HL := Lib.hid hL
    obtain ⟨hn0, hn1⟩ := rv_len hv
    clear hL
    go_enter Try.func22, Try.ntmps22
    go_wp2
    go_loopw [3, 4] (fun v i wr => ∃ (k n : Nat) (A' : Option Addr) (c' : Nat), k ≤ zs.length ∧ n + k ≤ 15 ∧ i = .int .i64 ((k : Int) - 1) ∧ v = .slice A' n c' ∧ OS wr w.heap.size A' n c' (zs.drop k).reverse ∧ Below w.heap.size w wr)
      (fun _ i _ => (intOf i + 1).toNat)
    case atStart =>
      refine ⟨zs.length, 0, _, _, Nat.le_refl _, by omega, by first | rfl | (congr 1), rfl, ?_, hbE⟩
      rw [List.drop_eq_nil_of_le (Nat.le_refl _)]; exact hE
    case round =>
      obtain ⟨k, n, A2, c2, hk, hnk, rfl, rfl, hO, hB2⟩ := hrel
      have HO2 := Lib.hid hO
      have hs2 := hB2.size
      have hrr : RI wr wr.heap.size A zs.length zs := hr.up (Nat.le_refl _) hB2 (Nat.le_refl _)
      clear hO hE hbE
      cases k with
      | zero =>
        go_wp2
        go_ret
        exact ⟨_, _, _, rfl, by rw [HL.out]; exact OS.toI (by simpa using HO2.out), hB2⟩
      | succ k =>
        have e1 : (((k + 1 : Nat) : Int) - 1) = (k : Int) := by omega
        rw [e1]
        clear e1
        obtain ⟨ad, x, rfl, hb, hx, hc⟩ := hrr.at_ (k := k) (by omega)
        have HX := Lib.hid hx
        clear hx
        go_wp2_with (first | (go_at_call 34; refine (ringValidS _ _ zs _ _ hrr (by omega)).mono ?_; rintro e w' ⟨rfl, rfl⟩) | (at_builtin; refine wpList_push _ x rfl _ _ rfl w.heap.size A2 n c2 _ rfl rfl HO2.out (by omega) hs2 ?_; intro g c3 w3 hO3 hg3))
        have hB3 : Below w.heap.size w w3 := hB2.grown hg3 hs2 (fun q e => (HO2.out.lt q e).1)
        go_roundw
        case rel =>
          refine ⟨k, n + 1, _, _, by omega, by omega, by first | rfl | (congr 1), rfl, ?_, hB3⟩
          rw [drop_pred zs k x HX.out]
          simpa using hO3
        case measure => simp [intOf]
theorem xor_bits {x y : Int} (hx : x = 0 ∨ x = 1) (hy : y = 0 ∨ y = 1) : bits BinOp.xor IntKind.i64 x y = (x + y) % 2 := by
  rcases hx with rfl | rfl <;> rcases hy with rfl | rfl <;> decide +kernel
set_option maxHeartbeats 1000000 in
theorem ringSum (A B : Option Addr) (n : Nat) (xs ys : List Int) (c d : Nat) (w : World) (hp : pairB xs ys = true) (hr : RI w w.heap.size A n xs) (hr' : RI w w.heap.size B n ys) :
    Calls Try.prog 40 #[.slice A n c, .slice B n d] w (GivesI w (sumL xs ys)) := by
  have hn : n ≤ 12 := by rw [← hr.len]; exact (rv_len (pair_iff.1 hp).1).2
  have hT0 : (sumL xs ys).take n = sumL xs ys := List.take_of_length_le (by rw [sum_len (pair_iff.1 hp).2.2, hr.len]; exact Nat.le_refl _)
  have HT0 := Lib.hid hT0
  have HV := Lib.hid (pair_iff.1 hp)
  clear hp hT0
  go_enter Try.func40, Try.ntmps40
  go_wp2_with (at_make; refine wpList_mk0 _ rfl _ _ rfl n _ rfl rfl (by omega) (by omega) ?_; intro w1 hO1 hg1)
  have hb1 : Below w.heap.size w w1 := grown_below hg1
  go_loopw [5, 12] (fun v i wr => ∃ (k : Nat) (A' : Option Addr) (c' : Nat), k ≤ n ∧ i = .int .i64 k ∧ v = .slice A' k c' ∧ OS wr w.heap.size A' k c' ((sumL xs ys).take k) ∧ Below w.heap.size w wr)
    (fun _ i _ => n - (intOf i).toNat)
  case atStart => exact ⟨0, _, _, by omega, rfl, rfl, hO1, hb1⟩
  case round =>
    obtain ⟨k, A', c', hk, rfl, rfl, hO, hB⟩ := hrel
    have HO := Lib.hid hO
    have hs := hB.size
    have hr1 := hr.below hB
    have hr2 := hr'.below hB
    clear hO
    by_cases hlt : k < n
    · obtain ⟨ad, x, rfl, hbx, hx, hcx⟩ := hr1.at_ (k := k) hlt
      obtain ⟨bd, y, rfl, hby, hy, hcy⟩ := hr2.at_ (k := k) hlt
      have hxy : bits BinOp.xor IntKind.i64 x y = (x + y) % 2 := xor_bits (rv_at HV.out.1 hx) (rv_at HV.out.2.1 hy)
      have hT := zip_take_succ hx hy
      have HT := Lib.hid hT
      clear hx hy hT
      go_wp2
      go_region_law (refine step_push _ ((x + y) % 2) rfl _ _ rfl w.heap.size A' k c' ((sumL xs ys).take k) (by simp [Act.eval]) (by simp [Act.eval]) HO.out (by omega) hs ⟨1, rfl⟩ ?_; intro g c2 w2 hO2 hg2)
      all_goals go_wp2
      all_goals
        have hB2 : Below w.heap.size w w2 := hB.grown hg2 hs (fun q e => (HO.out.lt q e).1)
        go_roundw
        case rel => exact ⟨k + 1, _, _, by omega, by go_num, rfl, by rw [HT.out]; exact hO2, hB2⟩
        case measure => simp [intOf]; omega
    · obtain rfl : k = n := by omega
      go_wp2
      go_ret
      exact ⟨_, _, _, rfl, by have := HO.out.toI; rwa [HT0.out] at this, hB⟩
set_option maxHeartbeats 1000000 in
theorem pairOk (A : Option Addr) (n : Nat) (xs : List Int) (c : Nat) (B : Option Addr) (m : Nat) (ys : List Int) (d : Nat) (w : World) (hr : RI w w.heap.size A n xs) (hl : n ≤ 1048577) (hr' : RI w w.heap.size B m ys) (hl' : m ≤ 1048577) :
    Calls Try.prog 39 #[.slice A n c, .slice B m d] w fun e w' => e = .returned (.bool (pairB xs ys)) ∧ w = w' := by
  have hp : pairB xs ys = (rvB xs && rvB ys && ((n : Int) == (m : Int))) := by
    rw [pairB, hr.len, hr'.len]
    congr 1
    rw [Bool.eq_iff_iff]; simp; omega
  have HP := Lib.hid hp
  clear hp
  cases hx : rvB xs <;> cases hy : rvB ys
  all_goals
    go_enter Try.func39, Try.ntmps39
    go_wp2_with (first | (go_at_call_of 23 A; refine (ringValid A n xs _ _ hr hl).mono ?_; rintro e w' ⟨rfl, rfl⟩) | (go_at_call_of 23 B; refine (ringValid B m ys _ _ hr' hl').mono ?_; rintro e w' ⟨rfl, rfl⟩))
    go_ret
    exact ⟨ret_bool (by rw [HP.out, hx, hy]; first | rfl | simp), rfl⟩
theorem ringAdd (A : Option Addr) (n : Nat) (xs : List Int) (c : Nat) (B : Option Addr) (m : Nat) (ys : List Int) (d : Nat) (w : World) (hr : RI w w.heap.size A n xs) (hl : n ≤ 1048576) (hr' : RI w w.heap.size B m ys) (hl' : m ≤ 1048576) :
    Calls Try.prog 26 #[.slice A n c, .slice B m d] w (GivesI w (raL xs ys)) := by
  cases hp : pairB xs ys
  · have hL : raL xs ys = [] := by simp [raL, hp]
    rw [hL]
    clear hL
    go_enter Try.func26, Try.ntmps26
    go_wp2_with (go_at_call 39; refine (pairOk A n xs _ B m ys _ _ hr (by omega) hr' (by omega)).mono ?_; rintro e w' ⟨rfl, rfl⟩)
    go_ret
    exact GivesI.nil w
  · have hL : raL xs ys = sumL xs ys := by simp [raL, hp]
    rw [hL]
    clear hL
    obtain rfl : n = m := by rw [← hr.len, ← hr'.len]; exact (pair_iff.1 hp).2.2
    go_enter Try.func26, Try.ntmps26
    go_wp2_with (go_at_call 39; refine (pairOk A n xs _ B n ys _ _ hr (by omega) hr' (by omega)).mono ?_; rintro e w' ⟨rfl, rfl⟩)
    refine (ringSum A B n xs ys _ _ w hp hr hr').mono ?_
    rintro e w2 ⟨A2, n2, c2, rfl, hO2, hB2⟩
    go_wp2
    go_ret
    exact ⟨_, _, _, rfl, hO2, hB2⟩
set_option maxHeartbeats 2000000 in
theorem ringAddS (A : Option Addr) (n : Nat) (xs : List Int) (c : Nat) (B : Option Addr) (m : Nat) (ys : List Int) (d : Nat) (w : World) (hr : RI w w.heap.size A n xs) (hl : n ≤ 1048576) (hr' : RI w w.heap.size B m ys) (hl' : m ≤ 1048576) :
    Calls Try.prog 27 #[.slice A n c, .slice B m d] w (GivesI w (raL xs ys)) := by
  have hE := OS.empty w
  have hbE : Below w.heap.size w (w.alloc (.cells #[] 3)) := (Below.refl _ _).alloc (Nat.le_refl _) _
  cases hp : pairB xs ys
  · have hL : raL xs ys = [] := by simp [raL, hp]
    rw [hL]
    have HE := Lib.hid hE
    have hr1 : RI (w.alloc (.cells #[] 3)) (w.alloc (.cells #[] 3)).heap.size A n xs := hr.up (Nat.le_refl _) hbE (Nat.le_refl _)
    have hr2 : RI (w.alloc (.cells #[] 3)) (w.alloc (.cells #[] 3)).heap.size B m ys := hr'.up (Nat.le_refl _) hbE (Nat.le_refl _)
    have hne : rvB xs = true → rvB ys = true → n ≠ m := by
      intro h0 h1 h2
      have : pairB xs ys = true := pair_iff.2 ⟨h0, h1, by rw [hr.len, hr'.len]; exact h2⟩
      rw [hp] at this; cases this
    have HNE := Lib.hid hne
    clear hL hE hp hne
    by_cases h0 : n = 0
    · subst h0
      go_enter Try.func27, Try.ntmps27
      go_wp2
      refine wp_loop_rounds 1 ?_
      rw [rounds_succ]
      go_wp2
      go_ret
      exact ⟨_, _, _, rfl, HE.out.toI, hbE⟩
    · cases hx : rvB xs <;> cases hy : rvB ys
      case neg.true.true =>
        have hnm : n ≠ m := HNE.out hx hy
        have hne : ((n : Int) == (m : Int)) = false := by simp; omega
        go_enter Try.func27, Try.ntmps27
        go_wp2
        refine wp_loop_rounds 1 ?_
        rw [rounds_succ]
        go_wp2_with (first | (go_at_call_of 34 A; refine (ringValidS A _ xs _ _ hr1 (by omega)).mono ?_; rintro e w' ⟨rfl, rfl⟩) | (go_at_call_of 34 B; refine (ringValidS B _ ys _ _ hr2 (by omega)).mono ?_; rintro e w' ⟨rfl, rfl⟩))
        go_ret
        exact ⟨_, _, _, rfl, HE.out.toI, hbE⟩
      all_goals
        go_enter Try.func27, Try.ntmps27
        go_wp2
        refine wp_loop_rounds 1 ?_
        rw [rounds_succ]
        go_wp2_with (first | (go_at_call_of 34 A; refine (ringValidS A _ xs _ _ hr1 (by omega)).mono ?_; rintro e w' ⟨rfl, rfl⟩) | (go_at_call_of 34 B; refine (ringValidS B _ ys _ _ hr2 (by omega)).mono ?_; rintro e w' ⟨rfl, rfl⟩))
        go_ret
        exact ⟨_, _, _, rfl, HE.out.toI, hbE⟩
  · have hL : raL xs ys = sumL xs ys := by simp [raL, hp]
    rw [hL]
    clear hL
    obtain rfl : n = m := by rw [← hr.len, ← hr'.len]; exact (pair_iff.1 hp).2.2
    have hn : n ≤ 12 := by rw [← hr.len]; exact (rv_len (pair_iff.1 hp).1).2
    have hT0 : (sumL xs ys).take n = sumL xs ys := List.take_of_length_le (by rw [sum_len (pair_iff.1 hp).2.2, hr.len]; exact Nat.le_refl _)
    have HT0 := Lib.hid hT0
    have hvx := (pair_iff.1 hp).1
    have hvy := (pair_iff.1 hp).2.1
    clear hp hT0
    go_enter Try.func27, Try.ntmps27
    go_wp2
    go_loopw [5, 6] (fun v i wr => ∃ (k : Nat) (A' : Option Addr) (c' : Nat), k ≤ n ∧ i = .int .i64 k ∧ v = .slice A' k c' ∧ OS wr w.heap.size A' k c' ((sumL xs ys).take k) ∧ Below w.heap.size w wr)
      (fun _ i _ => n - (intOf i).toNat)
    case atStart => exact ⟨0, _, _, by omega, rfl, rfl, hE, hbE⟩
    case round =>
      obtain ⟨k, A', c', hk, rfl, rfl, hO, hB⟩ := hrel
      have HO := Lib.hid hO
      have hs := hB.size
      have hr1 : RI wr wr.heap.size A n xs := hr.up (Nat.le_refl _) hB (Nat.le_refl _)
      have hr2 : RI wr wr.heap.size B n ys := hr'.up (Nat.le_refl _) hB (Nat.le_refl _)
      clear hO hE hbE
      by_cases hlt : k < n
      · obtain ⟨ad, x, rfl, hbx, hx, hcx⟩ := hr1.at_ (k := k) hlt
        obtain ⟨bd, y, rfl, hby, hy, hcy⟩ := hr2.at_ (k := k) hlt
        have hT := zip_take_succ hx hy
        have HT := Lib.hid hT
        have hx0 := rv_at hvx hx
        have hy0 := rv_at hvy hy
        have hx1 : 0 ≤ x ∧ x ≤ 1 := by omega
        have hy1 : 0 ≤ y ∧ y ≤ 1 := by omega
        obtain ⟨hxa, hxb⟩ := hx1
        obtain ⟨hya, hyb⟩ := hy1
        have hwr : IntKind.i64.wrap (x + y) = x + y := by rw [IntKind.wrap_i64]; omega
        have htm : (x + y).tmod 2 = (x + y) % 2 := Int.tmod_eq_emod_of_nonneg (by omega)
        clear hx hy hT hx0 hy0
        go_wp2_with (first | (go_at_call_of 34 ad; refine (ringValidS _ _ xs _ _ hr1 (by omega)).mono ?_; rintro e w' ⟨rfl, rfl⟩) | (go_at_call_of 34 bd; refine (ringValidS _ _ ys _ _ hr2 (by omega)).mono ?_; rintro e w' ⟨rfl, rfl⟩))
        go_region_law (refine step_push _ ((x + y) % 2) rfl _ _ rfl w.heap.size A' k c' ((sumL xs ys).take k) (by simp [Act.eval]) (by simp [Act.eval]) HO.out (by omega) hs ⟨1, rfl⟩ ?_; intro g c2 w2 hO2 hg2)
        all_goals go_wp2
        all_goals
          have hB2 : Below w.heap.size w w2 := hB.grown hg2 hs (fun q e => (HO.out.lt q e).1)
          go_roundw
          case rel => exact ⟨k + 1, _, _, by omega, by go_num, rfl, by rw [HT.out]; exact hO2, hB2⟩
          case measure => simp [intOf]; omega
      · obtain rfl : k = n := by omega
        go_wp2
        go_ret
        exact ⟨_, _, _, rfl, by have := HO.out.toI; rwa [HT0.out] at this, hB⟩
end Go.Proofs.Ytmbcolkhmleibaa
