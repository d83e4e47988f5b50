/- The walks of the drawn laws on two rings. -/
import Derived.Test.YtmbcolkhmleibaaRing4
import Derived.Test.YtmbcolkhmleibaaDrawRings
import Derived.Test.YtmbcolkhmleibaaGuard
namespace Go.Proofs.Ytmbcolkhmleibaa
open Go.RowKit
set_option linter.unusedVariables false

set_option maxHeartbeats 4000000 in
theorem walkFnRingFlip (w : World) (A : Option Addr) (zs : List Int) (c : Nat) (hc : zs.length ≤ c ∧ c ≤ maxLen) (h : RB w w.heap.size A zs) :
    Calls Try.prog 5 #[.slice A zs.length c] w fun e w' => e = .returned (.bool true) ∧ Below w.heap.size w w' := by
  have hcm := hc.2
  unfold maxLen at hcm
  by_cases hl : 1048576 < zs.length
  · go_enter Try.func5, Try.ntmps5
    go_wp2
    go_ret
    exact ⟨rfl, Below.refl _ _⟩
  go_enter Try.func5, Try.ntmps5
  go_wp2_with fail
  refine (drawRingFlip A zs c w h hc.1 hc.2).mono ?_
  rintro e w1 ⟨Aa, na, ca, xs, rfl, hOa, hNa, hB⟩
  have hs1 := hB.size
  have e1 : eqL (rflL xs) (rflL xs) = true := eqL_self _
  go_wp2_with fail
  refine (ringFlip _ _ xs _ _ hOa.reads (by omega)).mono ?_
  rintro e w2 ⟨Ax, nx, cx, rfl, hOx, hb⟩
  have hNx : nx ≤ 13 := by have := hOx.len; have := rfl_len xs; omega
  have hs2 : w1.heap.size ≤ w2.heap.size := hb.size
  replace hB := hB.trans (hb.mono hB.size)
  replace hOa := hOa.below hb (Nat.le_refl _)
  clear hb
  go_wp2_with fail
  refine (ringFlipS _ _ xs _ _ hOa.reads (by omega)).mono ?_
  rintro e w3 ⟨Ay, ny, cy, rfl, hOy, hb⟩
  have hNy : ny ≤ 13 := by have := hOy.len; have := rfl_len xs; omega
  have hs3 : w2.heap.size ≤ w3.heap.size := hb.size
  replace hB := hB.trans (hb.mono hB.size)
  replace hOa := hOa.below hb (Nat.le_refl _)
  replace hOx := hOx.below hb (Nat.le_refl _)
  clear hb
  go_wp2_with fail
  refine (sameInts' _ _ _ _ _ _ _ _ _ hOx.reads hOy.reads (by omega) (by omega)).mono ?_
  rintro e w4 ⟨rfl, hb⟩
  have hs4 : w3.heap.size ≤ w4.heap.size := hb.size
  replace hB := hB.trans (hb.mono hB.size)
  replace hOa := hOa.below hb (Nat.le_refl _)
  replace hOx := hOx.below hb (Nat.le_refl _)
  replace hOy := hOy.below hb (Nat.le_refl _)
  clear hb
  clear hOy
  have HLx := Lib.hid hOx.len
  rcases rfl_cases xs with ⟨hnil, hv⟩ | ⟨hv, k1, k4⟩
  · have hz : nx = 0 := by have := HLx.out; rw [hnil] at this; simpa using this.symm
    subst hz
    clear hOx hnil
    go_wp2_with (first | (go_at_call 23; refine (ringValid _ _ xs _ _ hOa.reads (by omega)).mono ?_; rintro e w' ⟨rfl, rfl⟩) | (go_at_call 24; refine (alive _).mono ?_; rintro e w' ⟨rfl, rfl⟩))
    go_ret
    exact ⟨rfl, hB⟩
  have hxp : 0 < nx := by have := HLx.out; omega
  have e2 : eqL (rflL (rflL xs)) xs = true := by rw [k1]; exact eqL_self _
  clear k1 k4
  go_wp2_with fail
  refine (ringFlip _ _ (rflL xs) _ _ hOx.reads (by omega)).mono ?_
  rintro e w5 ⟨Ap, np, cp, rfl, hOp, hb⟩
  have hNp : np ≤ 13 := by have := hOp.len; have := rfl_len (rflL xs); omega
  have hs5 : w4.heap.size ≤ w5.heap.size := hb.size
  replace hB := hB.trans (hb.mono hB.size)
  replace hOa := hOa.below hb (Nat.le_refl _)
  replace hOx := hOx.below hb (Nat.le_refl _)
  clear hb
  go_wp2_with fail
  refine (sameInts' _ _ _ _ _ _ _ _ _ hOp.reads hOa.reads (by omega) (by omega)).mono ?_
  rintro e w6 ⟨rfl, hb⟩
  have hs6 : w5.heap.size ≤ w6.heap.size := hb.size
  replace hB := hB.trans (hb.mono hB.size)
  replace hOa := hOa.below hb (Nat.le_refl _)
  replace hOx := hOx.below hb (Nat.le_refl _)
  replace hOp := hOp.below hb (Nat.le_refl _)
  clear hb
  go_wp2_with (go_at_call 24; refine (alive _).mono ?_; rintro e w' ⟨rfl, rfl⟩)
  go_ret
  exact ⟨rfl, hB⟩
set_option maxHeartbeats 4000000 in
theorem walkFnRingAdd (w : World) (A : Option Addr) (zs : List Int) (c : Nat) (hc : zs.length ≤ c ∧ c ≤ maxLen) (h : RB w w.heap.size A zs) :
    Calls Try.prog 6 #[.slice A zs.length c] w fun e w' => e = .returned (.bool true) ∧ Below w.heap.size w w' := by
  have hcm := hc.2
  unfold maxLen at hcm
  by_cases hl : 1048576 < zs.length
  · go_enter Try.func6, Try.ntmps6
    go_wp2
    go_ret
    exact ⟨rfl, Below.refl _ _⟩
  go_enter Try.func6, Try.ntmps6
  go_wp2_with fail
  refine (drawRingAdd A zs c w h hc.1 hc.2).mono ?_
  rintro e w1 ⟨Aa, na, ca, xs, Ab, nb, cb, ys, rfl, hOa, hNa, hOb, hNb, hB⟩
  have hs1 := hB.size
  have e1 : eqL (raL xs ys) (raL xs ys) = true := eqL_self _
  go_wp2_with fail
  refine (ringAdd _ _ xs _ _ _ ys _ _ hOa.reads (by omega) hOb.reads (by omega)).mono ?_
  rintro e w2 ⟨Ax, nx, cx, rfl, hOx, hb⟩
  have hNx : nx ≤ 13 := by have := hOx.len; have := ra_len xs ys; omega
  have hs2 : w1.heap.size ≤ w2.heap.size := hb.size
  replace hB := hB.trans (hb.mono hB.size)
  replace hOa := hOa.below hb (Nat.le_refl _)
  replace hOb := hOb.below hb (Nat.le_refl _)
  clear hb
  go_wp2_with fail
  refine (ringAddS _ _ xs _ _ _ ys _ _ hOa.reads (by omega) hOb.reads (by omega)).mono ?_
  rintro e w3 ⟨Ay, ny, cy, rfl, hOy, hb⟩
  have hNy : ny ≤ 13 := by have := hOy.len; have := ra_len xs ys; omega
  have hs3 : w2.heap.size ≤ w3.heap.size := hb.size
  replace hB := hB.trans (hb.mono hB.size)
  replace hOa := hOa.below hb (Nat.le_refl _)
  replace hOb := hOb.below hb (Nat.le_refl _)
  replace hOx := hOx.below hb (Nat.le_refl _)
  clear hb
  go_wp2_with fail
  refine (sameInts' _ _ _ _ _ _ _ _ _ hOx.reads hOy.reads (by omega) (by omega)).mono ?_
  rintro e w4 ⟨rfl, hb⟩
  have hs4 : w3.heap.size ≤ w4.heap.size := hb.size
  replace hB := hB.trans (hb.mono hB.size)
  replace hOa := hOa.below hb (Nat.le_refl _)
  replace hOb := hOb.below hb (Nat.le_refl _)
  replace hOx := hOx.below hb (Nat.le_refl _)
  replace hOy := hOy.below hb (Nat.le_refl _)
  clear hb
  clear hOy
  have HLx := Lib.hid hOx.len
  rcases ra_cases xs ys with hnil | hcs
  · have hz : nx = 0 := by have := HLx.out; rw [hnil] at this; simpa using this.symm
    subst hz
    clear hOx hOa hOb hnil
    go_wp2_with (go_at_call 24; refine (alive _).mono ?_; rintro e w' ⟨rfl, rfl⟩)
    go_ret
    exact ⟨rfl, hB⟩
  obtain ⟨k1, k2, k3, k4⟩ := hcs
  have e2 : eqL (raL (raL xs ys) ys) xs = true := by rw [k1]; exact eqL_self _
  have e3 : eqL (raL ys xs) (raL xs ys) = true := by rw [k2]; exact eqL_self _
  have hxp : 0 < nx := by have := HLx.out; omega
  clear k2 k1 k4
  go_wp2_with fail
  refine (ringAdd _ _ (raL xs ys) _ _ _ ys _ _ hOx.reads (by omega) hOb.reads (by omega)).mono ?_
  rintro e w5 ⟨Ap, np, cp, rfl, hOp, hb⟩
  have hNp : np ≤ 13 := by have := hOp.len; have := ra_len (raL xs ys) ys; omega
  have hs5 : w4.heap.size ≤ w5.heap.size := hb.size
  replace hB := hB.trans (hb.mono hB.size)
  replace hOa := hOa.below hb (Nat.le_refl _)
  replace hOb := hOb.below hb (Nat.le_refl _)
  replace hOx := hOx.below hb (Nat.le_refl _)
  clear hb
  go_wp2_with fail
  refine (sameInts' _ _ _ _ _ _ _ _ _ hOp.reads hOa.reads (by omega) (by omega)).mono ?_
  rintro e w6 ⟨rfl, hb⟩
  have hs6 : w5.heap.size ≤ w6.heap.size := hb.size
  replace hB := hB.trans (hb.mono hB.size)
  replace hOa := hOa.below hb (Nat.le_refl _)
  replace hOb := hOb.below hb (Nat.le_refl _)
  replace hOx := hOx.below hb (Nat.le_refl _)
  replace hOp := hOp.below hb (Nat.le_refl _)
  clear hb
  go_wp2_with fail
  refine (ringAdd _ _ ys _ _ _ xs _ _ hOb.reads (by omega) hOa.reads (by omega)).mono ?_
  rintro e w7 ⟨Aq, nq, cq, rfl, hOq, hb⟩
  have hNq : nq ≤ 13 := by have := hOq.len; have := ra_len ys xs; omega
  have hs7 : w6.heap.size ≤ w7.heap.size := hb.size
  replace hB := hB.trans (hb.mono hB.size)
  replace hOa := hOa.below hb (Nat.le_refl _)
  replace hOb := hOb.below hb (Nat.le_refl _)
  replace hOx := hOx.below hb (Nat.le_refl _)
  replace hOp := hOp.below hb (Nat.le_refl _)
  clear hb
  go_wp2_with fail
  refine (sameInts' _ _ _ _ _ _ _ _ _ hOq.reads hOx.reads (by omega) (by omega)).mono ?_
  rintro e w8 ⟨rfl, hb⟩
  have hs8 : w7.heap.size ≤ w8.heap.size := hb.size
  replace hB := hB.trans (hb.mono hB.size)
  replace hOa := hOa.below hb (Nat.le_refl _)
  replace hOb := hOb.below hb (Nat.le_refl _)
  replace hOx := hOx.below hb (Nat.le_refl _)
  replace hOp := hOp.below hb (Nat.le_refl _)
  replace hOq := hOq.below hb (Nat.le_refl _)
  clear hb
  go_wp2_with fail
  refine (ringValid _ _ (raL xs ys) _ _ hOx.reads (by omega)).mono ?_
  rintro e w' ⟨rfl, rfl⟩
  go_wp2
  go_ret
  exact ⟨rfl, hB⟩
set_option maxHeartbeats 4000000 in
theorem walkFnRingNext (w : World) (A : Option Addr) (zs : List Int) (c : Nat) (hc : zs.length ≤ c ∧ c ≤ maxLen) (h : RB w w.heap.size A zs) :
    Calls Try.prog 9 #[.slice A zs.length c] w fun e w' => e = .returned (.bool true) ∧ Below w.heap.size w w' := by
  have hcm := hc.2
  unfold maxLen at hcm
  by_cases hl : 1048576 < zs.length
  · go_enter Try.func9, Try.ntmps9
    go_wp2
    go_ret
    exact ⟨rfl, Below.refl _ _⟩
  go_enter Try.func9, Try.ntmps9
  go_wp2_with fail
  refine (drawRingNext A zs c w h hc.1 hc.2).mono ?_
  rintro e w1 ⟨x, Aa, na, ca, xs, Ab, nb, cb, ys, rfl, hOa, hNa, hOb, hNb, hB⟩
  have hs1 := hB.size
  have e1 : eqL (rnL x xs ys) (rnL x xs ys) = true := eqL_self _
  go_wp2_with fail
  refine (ringNext x _ _ xs _ _ _ ys _ _ hOa.reads (by omega) hOb.reads (by omega)).mono ?_
  rintro e w2 ⟨Ax, nx, cx, rfl, hOx, hb⟩
  have hNx : nx ≤ 13 := by have := hOx.len; have := rn_len x xs ys; omega
  have hs2 : w1.heap.size ≤ w2.heap.size := hb.size
  replace hB := hB.trans (hb.mono hB.size)
  replace hOa := hOa.below hb (Nat.le_refl _)
  replace hOb := hOb.below hb (Nat.le_refl _)
  clear hb
  go_wp2_with fail
  refine (ringNextS x _ _ xs _ _ _ ys _ _ hOa.reads (by omega) hOb.reads (by omega)).mono ?_
  rintro e w3 ⟨Ay, ny, cy, rfl, hOy, hb⟩
  have hNy : ny ≤ 13 := by have := hOy.len; have := rn_len x xs ys; omega
  have hs3 : w2.heap.size ≤ w3.heap.size := hb.size
  replace hB := hB.trans (hb.mono hB.size)
  replace hOa := hOa.below hb (Nat.le_refl _)
  replace hOb := hOb.below hb (Nat.le_refl _)
  replace hOx := hOx.below hb (Nat.le_refl _)
  clear hb
  go_wp2_with fail
  refine (sameInts' _ _ _ _ _ _ _ _ _ hOx.reads hOy.reads (by omega) (by omega)).mono ?_
  rintro e w4 ⟨rfl, hb⟩
  have hs4 : w3.heap.size ≤ w4.heap.size := hb.size
  replace hB := hB.trans (hb.mono hB.size)
  replace hOa := hOa.below hb (Nat.le_refl _)
  replace hOb := hOb.below hb (Nat.le_refl _)
  replace hOx := hOx.below hb (Nat.le_refl _)
  replace hOy := hOy.below hb (Nat.le_refl _)
  clear hb
  clear hOy
  have HLx := Lib.hid hOx.len
  rcases rn_cases x xs ys with hnil | hcs
  · have hz : nx = 0 := by have := HLx.out; rw [hnil] at this; simpa using this.symm
    subst hz
    clear hOx hOa hOb hnil
    go_wp2_with (go_at_call 24; refine (alive _).mono ?_; rintro e w' ⟨rfl, rfl⟩)
    go_ret
    exact ⟨rfl, hB⟩
  obtain ⟨_, _, k1, k3, k4, _⟩ := hcs
  have e2 : eqL (rnL x (rnL x xs ys) ys) xs = true := by rw [k1]; exact eqL_self _
  have hxp : 0 < nx := by have := HLx.out; omega
  clear k1 k4
  go_wp2_with fail
  refine (ringBefore x _ _ ys _ _ _ (rnL x xs ys) _ _ hOb.reads (by omega) hOx.reads (by omega)).mono ?_
  rintro e w5 ⟨Ap, np, cp, rfl, hOp, hb⟩
  have hNp : np ≤ 13 := by have := hOp.len; have := rn_len x (rnL x xs ys) ys; omega
  have hs5 : w4.heap.size ≤ w5.heap.size := hb.size
  replace hB := hB.trans (hb.mono hB.size)
  replace hOa := hOa.below hb (Nat.le_refl _)
  replace hOb := hOb.below hb (Nat.le_refl _)
  replace hOx := hOx.below hb (Nat.le_refl _)
  clear hb
  go_wp2_with fail
  refine (sameInts' _ _ _ _ _ _ _ _ _ hOp.reads hOa.reads (by omega) (by omega)).mono ?_
  rintro e w6 ⟨rfl, hb⟩
  have hs6 : w5.heap.size ≤ w6.heap.size := hb.size
  replace hB := hB.trans (hb.mono hB.size)
  replace hOa := hOa.below hb (Nat.le_refl _)
  replace hOb := hOb.below hb (Nat.le_refl _)
  replace hOx := hOx.below hb (Nat.le_refl _)
  replace hOp := hOp.below hb (Nat.le_refl _)
  clear hb
  go_wp2_with fail
  refine (ringValid _ _ (rnL x xs ys) _ _ hOx.reads (by omega)).mono ?_
  rintro e w' ⟨rfl, rfl⟩
  go_wp2
  go_ret
  exact ⟨rfl, hB⟩
set_option maxHeartbeats 4000000 in
theorem walkFnRingBefore (w : World) (A : Option Addr) (zs : List Int) (c : Nat) (hc : zs.length ≤ c ∧ c ≤ maxLen) (h : RB w w.heap.size A zs) :
    Calls Try.prog 8 #[.slice A zs.length c] w fun e w' => e = .returned (.bool true) ∧ Below w.heap.size w w' := by
  have hcm := hc.2
  unfold maxLen at hcm
  by_cases hl : 1048576 < zs.length
  · go_enter Try.func8, Try.ntmps8
    go_wp2
    go_ret
    exact ⟨rfl, Below.refl _ _⟩
  go_enter Try.func8, Try.ntmps8
  go_wp2_with fail
  refine (drawRingBefore A zs c w h hc.1 hc.2).mono ?_
  rintro e w1 ⟨x, Aa, na, ca, xs, Ab, nb, cb, ys, rfl, hOa, hNa, hOb, hNb, hB⟩
  have hs1 := hB.size
  have e1 : eqL (rnL x ys xs) (rnL x ys xs) = true := eqL_self _
  go_wp2_with fail
  refine (ringBefore x _ _ xs _ _ _ ys _ _ hOa.reads (by omega) hOb.reads (by omega)).mono ?_
  rintro e w2 ⟨Ax, nx, cx, rfl, hOx, hb⟩
  have hNx : nx ≤ 13 := by have := hOx.len; have := rn_len x ys xs; omega
  have hs2 : w1.heap.size ≤ w2.heap.size := hb.size
  replace hB := hB.trans (hb.mono hB.size)
  replace hOa := hOa.below hb (Nat.le_refl _)
  replace hOb := hOb.below hb (Nat.le_refl _)
  clear hb
  go_wp2_with fail
  refine (ringBeforeS x _ _ xs _ _ _ ys _ _ hOa.reads (by omega) hOb.reads (by omega)).mono ?_
  rintro e w3 ⟨Ay, ny, cy, rfl, hOy, hb⟩
  have hNy : ny ≤ 13 := by have := hOy.len; have := rn_len x ys xs; omega
  have hs3 : w2.heap.size ≤ w3.heap.size := hb.size
  replace hB := hB.trans (hb.mono hB.size)
  replace hOa := hOa.below hb (Nat.le_refl _)
  replace hOb := hOb.below hb (Nat.le_refl _)
  replace hOx := hOx.below hb (Nat.le_refl _)
  clear hb
  go_wp2_with fail
  refine (sameInts' _ _ _ _ _ _ _ _ _ hOx.reads hOy.reads (by omega) (by omega)).mono ?_
  rintro e w4 ⟨rfl, hb⟩
  have hs4 : w3.heap.size ≤ w4.heap.size := hb.size
  replace hB := hB.trans (hb.mono hB.size)
  replace hOa := hOa.below hb (Nat.le_refl _)
  replace hOb := hOb.below hb (Nat.le_refl _)
  replace hOx := hOx.below hb (Nat.le_refl _)
  replace hOy := hOy.below hb (Nat.le_refl _)
  clear hb
  clear hOy
  have HLx := Lib.hid hOx.len
  rcases rn_cases x ys xs with hnil | hcs
  · have hz : nx = 0 := by have := HLx.out; rw [hnil] at this; simpa using this.symm
    subst hz
    clear hOx hOa hOb hnil
    go_wp2_with (go_at_call 24; refine (alive _).mono ?_; rintro e w' ⟨rfl, rfl⟩)
    go_ret
    exact ⟨rfl, hB⟩
  obtain ⟨_, _, k1, k3, k4, _⟩ := hcs
  have e2 : eqL (rnL x (rnL x ys xs) xs) ys = true := by rw [k1]; exact eqL_self _
  have hxp : 0 < nx := by have := HLx.out; omega
  clear k1 k4 k3
  go_wp2_with fail
  refine (ringNext x _ _ ys _ _ _ xs _ _ hOb.reads (by omega) hOa.reads (by omega)).mono ?_
  rintro e w5 ⟨Ap, np, cp, rfl, hOp, hb⟩
  have hNp : np ≤ 13 := by have := hOp.len; have := rn_len x ys xs; omega
  have hs5 : w4.heap.size ≤ w5.heap.size := hb.size
  replace hB := hB.trans (hb.mono hB.size)
  replace hOa := hOa.below hb (Nat.le_refl _)
  replace hOb := hOb.below hb (Nat.le_refl _)
  replace hOx := hOx.below hb (Nat.le_refl _)
  clear hb
  go_wp2_with fail
  refine (sameInts' _ _ _ _ _ _ _ _ _ hOp.reads hOx.reads (by omega) (by omega)).mono ?_
  rintro e w6 ⟨rfl, hb⟩
  have hs6 : w5.heap.size ≤ w6.heap.size := hb.size
  replace hB := hB.trans (hb.mono hB.size)
  replace hOa := hOa.below hb (Nat.le_refl _)
  replace hOb := hOb.below hb (Nat.le_refl _)
  replace hOx := hOx.below hb (Nat.le_refl _)
  replace hOp := hOp.below hb (Nat.le_refl _)
  clear hb
  go_wp2_with fail
  refine (ringNext x _ _ (rnL x ys xs) _ _ _ xs _ _ hOx.reads (by omega) hOa.reads (by omega)).mono ?_
  rintro e w7 ⟨Aq, nq, cq, rfl, hOq, hb⟩
  have hNq : nq ≤ 13 := by have := hOq.len; have := rn_len x (rnL x ys xs) xs; omega
  have hs7 : w6.heap.size ≤ w7.heap.size := hb.size
  replace hB := hB.trans (hb.mono hB.size)
  replace hOa := hOa.below hb (Nat.le_refl _)
  replace hOb := hOb.below hb (Nat.le_refl _)
  replace hOx := hOx.below hb (Nat.le_refl _)
  replace hOp := hOp.below hb (Nat.le_refl _)
  clear hb
  go_wp2_with fail
  refine (sameInts' _ _ _ _ _ _ _ _ _ hOq.reads hOb.reads (by omega) (by omega)).mono ?_
  rintro e w8 ⟨rfl, hb⟩
  have hs8 : w7.heap.size ≤ w8.heap.size := hb.size
  replace hB := hB.trans (hb.mono hB.size)
  replace hOa := hOa.below hb (Nat.le_refl _)
  replace hOb := hOb.below hb (Nat.le_refl _)
  replace hOx := hOx.below hb (Nat.le_refl _)
  replace hOp := hOp.below hb (Nat.le_refl _)
  replace hOq := hOq.below hb (Nat.le_refl _)
  clear hb
  go_wp2
  go_ret
  exact ⟨rfl, hB⟩
end Go.Proofs.Ytmbcolkhmleibaa
