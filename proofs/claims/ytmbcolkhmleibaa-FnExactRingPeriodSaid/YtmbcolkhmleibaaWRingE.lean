/- The walk of the exact law on the period of two rings. -/
import Derived.Test.YtmbcolkhmleibaaRing8
namespace Go.Proofs.Ytmbcolkhmleibaa
open Go.RowKit
set_option linter.unusedVariables false

set_option maxHeartbeats 2000000 in
theorem walkFnExactRingPeriod (w : World) (a0 : Int) (_w0 : (Lit.int .i64 a0).wf = true) (A1 : Option Addr) (z1 : List Int) (c1 : Nat) (hc1 : z1.length ≤ c1 ∧ c1 ≤ maxLen) (hr1 : RI w w.heap.size A1 z1.length z1) (A2 : Option Addr) (z2 : List Int) (c2 : Nat) (hc2 : z2.length ≤ c2 ∧ c2 ≤ maxLen) (hr2 : RI w w.heap.size A2 z2.length z2) :
    Calls Try.prog 10 #[.int .i64 a0, .slice A1 z1.length c1, .slice A2 z2.length c2] w fun e w' => e = .returned (.bool true) ∧ Below w.heap.size w w' := by
  have hcm1 := hc1.2
  unfold maxLen at hcm1
  have hcm2 := hc2.2
  unfold maxLen at hcm2
  by_cases hl1 : 1048576 < z1.length
  · go_enter Try.func10, Try.ntmps10
    go_wp2
    go_ret
    exact ⟨rfl, Below.refl _ _⟩
  have hn1 : z1.length ≤ 1048576 := by omega
  by_cases hl2 : 1048576 < z2.length
  · go_enter Try.func10, Try.ntmps10
    go_wp2
    go_ret
    exact ⟨rfl, Below.refl _ _⟩
  have hn2 : z2.length ≤ 1048576 := by omega
  clear _w0
  go_enter Try.func10, Try.ntmps10
  have hBt : Below w.heap.size w w := Below.refl _ _
  go_wp2_with fail
  refine (toIntS A1 _ z1 c1 _ (hr1.up (Nat.le_refl _) hBt (Nat.le_refl _)) hn1).mono ?_
  rintro e w1 ⟨As1, ns1, cs1, rfl, hOs1, hB⟩
  have hNs1 : ns1 ≤ 1048576 := by have := OI.len hOs1; omega
  have hs1 : w.heap.size ≤ w1.heap.size := hB.size
  replace hBt := hBt.trans (hB.mono hBt.size)
  clear hB
  have hLs1 := Lib.hid (OI.lt hOs1)
  go_wp2_with fail
  refine (toIntS A2 _ z2 c2 _ (hr2.up (Nat.le_refl _) hBt (Nat.le_refl _)) hn2).mono ?_
  rintro e w2 ⟨As2, ns2, cs2, rfl, hOs2, hB⟩
  have hNs2 : ns2 ≤ 1048576 := by have := OI.len hOs2; omega
  have hs2 : w1.heap.size ≤ w2.heap.size := hB.size
  replace hBt := hBt.trans (hB.mono hBt.size)
  replace hOs1 := hOs1.below hB (Nat.le_refl _)
  clear hB
  have hLs2 := Lib.hid (OI.lt hOs2)
  go_wp2_with fail
  refine (ringPeriodS a0 _ _ z1 _ _ _ z2 _ _ hOs1.reads hNs1 hOs2.reads hNs2).mono ?_
  rintro e w3 ⟨rfl, hB⟩
  have hs3 : w2.heap.size ≤ w3.heap.size := hB.size
  replace hBt := hBt.trans (hB.mono hBt.size)
  replace hOs1 := hOs1.below hB (Nat.le_refl _)
  replace hOs2 := hOs2.below hB (Nat.le_refl _)
  clear hB
  go_wp2_with fail
  refine (toIntS A1 _ z1 c1 _ (hr1.up (Nat.le_refl _) hBt (Nat.le_refl _)) hn1).mono ?_
  rintro e w4 ⟨Ax1, nx1, cx1, rfl, hOx1, hB⟩
  have hNx1 : nx1 ≤ 1048576 := by have := OI.len hOx1; omega
  have hs4 : w3.heap.size ≤ w4.heap.size := hB.size
  replace hBt := hBt.trans (hB.mono hBt.size)
  replace hOs1 := hOs1.below hB (Nat.le_refl _)
  replace hOs2 := hOs2.below hB (Nat.le_refl _)
  clear hB
  have hLx1 := Lib.hid (OI.lt hOx1)
  go_wp2_with fail
  refine (toIntS A2 _ z2 c2 _ (hr2.up (Nat.le_refl _) hBt (Nat.le_refl _)) hn2).mono ?_
  rintro e w5 ⟨Ax2, nx2, cx2, rfl, hOx2, hB⟩
  have hNx2 : nx2 ≤ 1048576 := by have := OI.len hOx2; omega
  have hs5 : w4.heap.size ≤ w5.heap.size := hB.size
  replace hBt := hBt.trans (hB.mono hBt.size)
  replace hOs1 := hOs1.below hB (Nat.le_refl _)
  replace hOs2 := hOs2.below hB (Nat.le_refl _)
  replace hOx1 := hOx1.below hB (Nat.le_refl _)
  clear hB
  have hLx2 := Lib.hid (OI.lt hOx2)
  go_wp2_with fail
  refine (ringPeriod a0 _ _ z1 _ _ _ z2 _ _ hOx1.reads hNx1 hOx2.reads hNx2).mono ?_
  rintro e w6 ⟨rfl, hB⟩
  have hs6 : w5.heap.size ≤ w6.heap.size := hB.size
  replace hBt := hBt.trans (hB.mono hBt.size)
  replace hOs1 := hOs1.below hB (Nat.le_refl _)
  replace hOs2 := hOs2.below hB (Nat.le_refl _)
  replace hOx1 := hOx1.below hB (Nat.le_refl _)
  replace hOx2 := hOx2.below hB (Nat.le_refl _)
  clear hB
  go_wp2_with fail
  refine (toIntS A1 _ z1 c1 _ (hr1.up (Nat.le_refl _) hBt (Nat.le_refl _)) hn1).mono ?_
  rintro e w7 ⟨Ay1, ny1, cy1, rfl, hOy1, hB⟩
  have hNy1 : ny1 ≤ 1048576 := by have := OI.len hOy1; omega
  have hs7 : w6.heap.size ≤ w7.heap.size := hB.size
  replace hBt := hBt.trans (hB.mono hBt.size)
  replace hOs1 := hOs1.below hB (Nat.le_refl _)
  replace hOs2 := hOs2.below hB (Nat.le_refl _)
  replace hOx1 := hOx1.below hB (Nat.le_refl _)
  replace hOx2 := hOx2.below hB (Nat.le_refl _)
  clear hB
  have hLy1 := Lib.hid (OI.lt hOy1)
  have hE1 : eqL z1 z1 = true := eqL_self _
  go_wp2_with fail
  refine (eqIntS' _ _ _ _ _ _ _ _ _ hOx1.reads hOy1.reads (by omega) (by omega)).mono ?_
  rintro e w8 ⟨rfl, hB⟩
  have hs8 : w7.heap.size ≤ w8.heap.size := hB.size
  replace hBt := hBt.trans (hB.mono hBt.size)
  replace hOs1 := hOs1.below hB (Nat.le_refl _)
  replace hOs2 := hOs2.below hB (Nat.le_refl _)
  replace hOx1 := hOx1.below hB (Nat.le_refl _)
  replace hOx2 := hOx2.below hB (Nat.le_refl _)
  replace hOy1 := hOy1.below hB (Nat.le_refl _)
  clear hB
  go_wp2_with fail
  refine (toIntS A2 _ z2 c2 _ (hr2.up (Nat.le_refl _) hBt (Nat.le_refl _)) hn2).mono ?_
  rintro e w9 ⟨Ay2, ny2, cy2, rfl, hOy2, hB⟩
  have hNy2 : ny2 ≤ 1048576 := by have := OI.len hOy2; omega
  have hs9 : w8.heap.size ≤ w9.heap.size := hB.size
  replace hBt := hBt.trans (hB.mono hBt.size)
  replace hOs1 := hOs1.below hB (Nat.le_refl _)
  replace hOs2 := hOs2.below hB (Nat.le_refl _)
  replace hOx1 := hOx1.below hB (Nat.le_refl _)
  replace hOx2 := hOx2.below hB (Nat.le_refl _)
  replace hOy1 := hOy1.below hB (Nat.le_refl _)
  clear hB
  have hLy2 := Lib.hid (OI.lt hOy2)
  have hE2 : eqL z2 z2 = true := eqL_self _
  go_wp2_with fail
  refine (eqIntS' _ _ _ _ _ _ _ _ _ hOx2.reads hOy2.reads (by omega) (by omega)).mono ?_
  rintro e w10 ⟨rfl, hB⟩
  have hs10 : w9.heap.size ≤ w10.heap.size := hB.size
  replace hBt := hBt.trans (hB.mono hBt.size)
  replace hOs1 := hOs1.below hB (Nat.le_refl _)
  replace hOs2 := hOs2.below hB (Nat.le_refl _)
  replace hOx1 := hOx1.below hB (Nat.le_refl _)
  replace hOx2 := hOx2.below hB (Nat.le_refl _)
  replace hOy1 := hOy1.below hB (Nat.le_refl _)
  replace hOy2 := hOy2.below hB (Nat.le_refl _)
  clear hB
  go_wp2
  go_ret
  exact ⟨rfl, hBt⟩
end Go.Proofs.Ytmbcolkhmleibaa
