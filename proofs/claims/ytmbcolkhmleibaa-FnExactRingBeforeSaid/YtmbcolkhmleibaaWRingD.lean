/- The walks of the exact laws on what a rule tells, on the ring behind two rings and before them. -/
import Derived.Test.YtmbcolkhmleibaaRing4
namespace Go.Proofs.Ytmbcolkhmleibaa
open Go.RowKit
set_option linter.unusedVariables false

set_option maxHeartbeats 2000000 in
theorem walkFnExactRuleRing (w : World) (a0 : Int) (_w0 : (Lit.int .i64 a0).wf = true) (A1 : Option Addr) (z1 : List Int) (c1 : Nat) (hc1 : z1.length ≤ c1 ∧ c1 ≤ maxLen) (hr1 : RI w w.heap.size A1 z1.length z1) :
    Calls Try.prog 3 #[.int .i64 a0, .slice A1 z1.length c1] w fun e w' => e = .returned (.bool true) ∧ Below w.heap.size w w' := by
  have hcm1 := hc1.2
  unfold maxLen at hcm1
  by_cases hl1 : 1048576 < z1.length
  · go_enter Try.func3, Try.ntmps3
    go_wp2
    go_ret
    exact ⟨rfl, Below.refl _ _⟩
  have hn1 : z1.length ≤ 1048576 := by omega
  clear _w0
  have hE : eqL (rrL a0 z1) (rrL a0 z1) = true := eqL_self _
  have hLn : (rrL a0 z1).length ≤ 1048576 := Nat.le_trans (rr_len _ _) (by omega)
  have HLn := Lib.hid hLn
  clear hLn
  go_enter Try.func3, Try.ntmps3
  have hBt : Below w.heap.size w w := Below.refl _ _
  go_wp2_with fail
  refine (toIntS A1 _ z1 c1 _ (hr1.up (Nat.le_refl _) hBt (Nat.le_refl _)) hn1).mono ?_
  rintro e w1 ⟨As1, ns1, cs1, rfl, hOs1, hB⟩
  have hNs1 : ns1 ≤ 1048576 := by have := OI.len hOs1; omega
  have hs1 : w.heap.size ≤ w1.heap.size := hB.size
  replace hBt := hBt.trans (hB.mono hBt.size)
  clear hB
  have hLs1 := Lib.hid (OI.lt hOs1)
  go_wp2_with fail
  refine (ruleRingS a0 _ _ z1 _ _ hOs1.reads hNs1).mono ?_
  rintro e w2 ⟨Aw, nw, cw, rfl, hOw, hB⟩
  have hNw : nw ≤ 1048576 := by have := OI.len hOw; have := HLn.out; omega
  have hs2 : w1.heap.size ≤ w2.heap.size := hB.size
  replace hBt := hBt.trans (hB.mono hBt.size)
  replace hOs1 := hOs1.below hB (Nat.le_refl _)
  clear hB
  have hLw := Lib.hid (OI.lt hOw)
  go_wp2_with fail
  refine (toIntS A1 _ z1 c1 _ (hr1.up (Nat.le_refl _) hBt (Nat.le_refl _)) hn1).mono ?_
  rintro e w3 ⟨Ax1, nx1, cx1, rfl, hOx1, hB⟩
  have hNx1 : nx1 ≤ 1048576 := by have := OI.len hOx1; omega
  have hs3 : w2.heap.size ≤ w3.heap.size := hB.size
  replace hBt := hBt.trans (hB.mono hBt.size)
  replace hOs1 := hOs1.below hB (Nat.le_refl _)
  replace hOw := hOw.below hB (Nat.le_refl _)
  clear hB
  have hLx1 := Lib.hid (OI.lt hOx1)
  go_wp2_with fail
  refine (ruleRing a0 _ _ z1 _ _ hOx1.reads hNx1).mono ?_
  rintro e w4 ⟨Ag, ng, cg, rfl, hOg, hB⟩
  have hNg : ng ≤ 1048576 := by have := OI.len hOg; have := HLn.out; omega
  have hs4 : w3.heap.size ≤ w4.heap.size := hB.size
  replace hBt := hBt.trans (hB.mono hBt.size)
  replace hOs1 := hOs1.below hB (Nat.le_refl _)
  replace hOw := hOw.below hB (Nat.le_refl _)
  replace hOx1 := hOx1.below hB (Nat.le_refl _)
  clear hB
  have hLg := Lib.hid (OI.lt hOg)
  go_wp2_with fail
  refine (eqIntS' _ _ _ _ _ _ _ _ _ hOg.reads hOw.reads (by omega) (by omega)).mono ?_
  rintro e w5 ⟨rfl, hB⟩
  have hs5 : w4.heap.size ≤ w5.heap.size := hB.size
  replace hBt := hBt.trans (hB.mono hBt.size)
  replace hOs1 := hOs1.below hB (Nat.le_refl _)
  replace hOw := hOw.below hB (Nat.le_refl _)
  replace hOx1 := hOx1.below hB (Nat.le_refl _)
  replace hOg := hOg.below hB (Nat.le_refl _)
  clear hB
  go_wp2_with fail
  refine (toIntS A1 _ z1 c1 _ (hr1.up (Nat.le_refl _) hBt (Nat.le_refl _)) hn1).mono ?_
  rintro e w6 ⟨Ay1, ny1, cy1, rfl, hOy1, hB⟩
  have hNy1 : ny1 ≤ 1048576 := by have := OI.len hOy1; omega
  have hs6 : w5.heap.size ≤ w6.heap.size := hB.size
  replace hBt := hBt.trans (hB.mono hBt.size)
  replace hOs1 := hOs1.below hB (Nat.le_refl _)
  replace hOw := hOw.below hB (Nat.le_refl _)
  replace hOx1 := hOx1.below hB (Nat.le_refl _)
  replace hOg := hOg.below hB (Nat.le_refl _)
  clear hB
  have hLy1 := Lib.hid (OI.lt hOy1)
  have hE1 : eqL z1 z1 = true := eqL_self _
  go_wp2_with fail
  refine (eqIntS' _ _ _ _ _ _ _ _ _ hOx1.reads hOy1.reads (by omega) (by omega)).mono ?_
  rintro e w7 ⟨rfl, hB⟩
  have hs7 : w6.heap.size ≤ w7.heap.size := hB.size
  replace hBt := hBt.trans (hB.mono hBt.size)
  replace hOs1 := hOs1.below hB (Nat.le_refl _)
  replace hOw := hOw.below hB (Nat.le_refl _)
  replace hOx1 := hOx1.below hB (Nat.le_refl _)
  replace hOg := hOg.below hB (Nat.le_refl _)
  replace hOy1 := hOy1.below hB (Nat.le_refl _)
  clear hB
  go_wp2_with fail
  refine (markIntS _ _ _ _ _ _ _ hOx1 (by omega) (by omega) (by omega)).mono ?_
  rintro e w8 ⟨rfl, hO', hG⟩
  clear hOx1
  have hOx1 := hO'
  clear hO'
  have hs8 : w7.heap.size ≤ w8.heap.size := hG.size
  replace hBt := hBt.grown hG hBt.size (fun k hk => by have := (hLx1.out k hk).1; omega)
  replace hOs1 := hOs1.sepV hG (fun j k hj hk => by have := hLs1.out j hj; have := hLx1.out k hk; omega)
  replace hOw := hOw.sepV hG (fun j k hj hk => by have := hLw.out j hj; have := hLx1.out k hk; omega)
  replace hOg := hOg.sepV hG (fun j k hj hk => by have := hLg.out j hj; have := hLx1.out k hk; omega)
  replace hOy1 := hOy1.sepV hG (fun j k hj hk => by have := hLy1.out j hj; have := hLx1.out k hk; omega)
  clear hG
  go_wp2_with fail
  refine (eqIntS' _ _ _ _ _ _ _ _ _ hOg.reads hOw.reads (by omega) (by omega)).mono ?_
  rintro e w9 ⟨rfl, hB⟩
  have hs9 : w8.heap.size ≤ w9.heap.size := hB.size
  replace hBt := hBt.trans (hB.mono hBt.size)
  replace hOs1 := hOs1.below hB (Nat.le_refl _)
  replace hOw := hOw.below hB (Nat.le_refl _)
  replace hOx1 := hOx1.below hB (Nat.le_refl _)
  replace hOg := hOg.below hB (Nat.le_refl _)
  replace hOy1 := hOy1.below hB (Nat.le_refl _)
  clear hB
  go_wp2_with fail
  refine (markIntS _ _ _ _ _ _ _ hOg (by omega) (by omega) (by omega)).mono ?_
  rintro e w10 ⟨rfl, hO', hG⟩
  clear hOg
  have hOg := hO'
  clear hO'
  have hs10 : w9.heap.size ≤ w10.heap.size := hG.size
  replace hBt := hBt.grown hG hBt.size (fun k hk => by have := (hLg.out k hk).1; omega)
  replace hOs1 := hOs1.sepV hG (fun j k hj hk => by have := hLs1.out j hj; have := hLg.out k hk; omega)
  replace hOw := hOw.sepV hG (fun j k hj hk => by have := hLw.out j hj; have := hLg.out k hk; omega)
  replace hOx1 := hOx1.sepV hG (fun j k hj hk => by have := hLx1.out j hj; have := hLg.out k hk; omega)
  replace hOy1 := hOy1.sepV hG (fun j k hj hk => by have := hLy1.out j hj; have := hLg.out k hk; omega)
  clear hG
  go_wp2_with fail
  refine (heldIntS _ _ _ _ _ hOg.reads (by omega) (by omega) (by omega)).mono ?_
  rintro e w' ⟨rfl, rfl⟩
  go_wp2_with fail
  refine (toIntS A1 _ z1 c1 _ (hr1.up (Nat.le_refl _) hBt (Nat.le_refl _)) hn1).mono ?_
  rintro e w11 ⟨Ah1, nh1, ch1, rfl, hOh1, hB⟩
  have hNh1 : nh1 ≤ 1048576 := by have := OI.len hOh1; omega
  have hs11 : w10.heap.size ≤ w11.heap.size := hB.size
  replace hBt := hBt.trans (hB.mono hBt.size)
  replace hOs1 := hOs1.below hB (Nat.le_refl _)
  replace hOw := hOw.below hB (Nat.le_refl _)
  replace hOx1 := hOx1.below hB (Nat.le_refl _)
  replace hOg := hOg.below hB (Nat.le_refl _)
  replace hOy1 := hOy1.below hB (Nat.le_refl _)
  clear hB
  have hLh1 := Lib.hid (OI.lt hOh1)
  go_wp2_with fail
  refine (ruleRing a0 _ _ z1 _ _ hOh1.reads hNh1).mono ?_
  rintro e w12 ⟨Ah, nh, ch, rfl, hOh, hB⟩
  have hNh : nh ≤ 1048576 := by have := OI.len hOh; have := HLn.out; omega
  have hs12 : w11.heap.size ≤ w12.heap.size := hB.size
  replace hBt := hBt.trans (hB.mono hBt.size)
  replace hOs1 := hOs1.below hB (Nat.le_refl _)
  replace hOw := hOw.below hB (Nat.le_refl _)
  replace hOx1 := hOx1.below hB (Nat.le_refl _)
  replace hOg := hOg.below hB (Nat.le_refl _)
  replace hOy1 := hOy1.below hB (Nat.le_refl _)
  replace hOh1 := hOh1.below hB (Nat.le_refl _)
  clear hB
  have hLh := Lib.hid (OI.lt hOh)
  go_wp2_with fail
  refine (eqIntS' _ _ _ _ _ _ _ _ _ hOh.reads hOw.reads (by omega) (by omega)).mono ?_
  rintro e w13 ⟨rfl, hB⟩
  have hs13 : w12.heap.size ≤ w13.heap.size := hB.size
  replace hBt := hBt.trans (hB.mono hBt.size)
  replace hOs1 := hOs1.below hB (Nat.le_refl _)
  replace hOw := hOw.below hB (Nat.le_refl _)
  replace hOx1 := hOx1.below hB (Nat.le_refl _)
  replace hOg := hOg.below hB (Nat.le_refl _)
  replace hOy1 := hOy1.below hB (Nat.le_refl _)
  replace hOh1 := hOh1.below hB (Nat.le_refl _)
  replace hOh := hOh.below hB (Nat.le_refl _)
  clear hB
  go_wp2_with fail
  refine (heldIntS _ _ _ _ _ hOg.reads (by omega) (by omega) (by omega)).mono ?_
  rintro e w' ⟨rfl, rfl⟩
  go_wp2
  go_ret
  exact ⟨rfl, hBt⟩
set_option maxHeartbeats 2000000 in
theorem walkFnExactRingNext (w : World) (a0 : Int) (_w0 : (Lit.int .i64 a0).wf = true) (A1 : Option Addr) (z1 : List Int) (c1 : Nat) (hc1 : z1.length ≤ c1 ∧ c1 ≤ maxLen) (hr1 : RI w w.heap.size A1 z1.length z1) (A2 : Option Addr) (z2 : List Int) (c2 : Nat) (hc2 : z2.length ≤ c2 ∧ c2 ≤ maxLen) (hr2 : RI w w.heap.size A2 z2.length z2) :
    Calls Try.prog 4 #[.int .i64 a0, .slice A1 z1.length c1, .slice A2 z2.length c2] w fun e w' => e = .returned (.bool true) ∧ Below w.heap.size w w' := by
  have hcm1 := hc1.2
  unfold maxLen at hcm1
  have hcm2 := hc2.2
  unfold maxLen at hcm2
  by_cases hl1 : 1048576 < z1.length
  · go_enter Try.func4, Try.ntmps4
    go_wp2
    go_ret
    exact ⟨rfl, Below.refl _ _⟩
  have hn1 : z1.length ≤ 1048576 := by omega
  by_cases hl2 : 1048576 < z2.length
  · go_enter Try.func4, Try.ntmps4
    go_wp2
    go_ret
    exact ⟨rfl, Below.refl _ _⟩
  have hn2 : z2.length ≤ 1048576 := by omega
  clear _w0
  have hE : eqL (rnL a0 z1 z2) (rnL a0 z1 z2) = true := eqL_self _
  have hLn : (rnL a0 z1 z2).length ≤ 1048576 := Nat.le_trans (rn_len _ _ _) (by omega)
  have HLn := Lib.hid hLn
  clear hLn
  go_enter Try.func4, Try.ntmps4
  have hBt : Below w.heap.size w w := Below.refl _ _
  go_wp2_with fail
  refine (toIntS A1 _ z1 c1 _ (hr1.up (Nat.le_refl _) hBt (Nat.le_refl _)) hn1).mono ?_
  rintro e w1 ⟨As1, ns1, cs1, rfl, hOs1, hB⟩
  have hNs1 : ns1 ≤ 1048576 := by have := OI.len hOs1; omega
  have hs1 : w.heap.size ≤ w1.heap.size := hB.size
  replace hBt := hBt.trans (hB.mono hBt.size)
  clear hB
  have hLs1 := Lib.hid (OI.lt hOs1)
  go_wp2_with fail
  refine (toIntS A2 _ z2 c2 _ (hr2.up (Nat.le_refl _) hBt (Nat.le_refl _)) hn2).mono ?_
  rintro e w2 ⟨As2, ns2, cs2, rfl, hOs2, hB⟩
  have hNs2 : ns2 ≤ 1048576 := by have := OI.len hOs2; omega
  have hs2 : w1.heap.size ≤ w2.heap.size := hB.size
  replace hBt := hBt.trans (hB.mono hBt.size)
  replace hOs1 := hOs1.below hB (Nat.le_refl _)
  clear hB
  have hLs2 := Lib.hid (OI.lt hOs2)
  go_wp2_with fail
  refine (ringNextS a0 _ _ z1 _ _ _ z2 _ _ hOs1.reads hNs1 hOs2.reads hNs2).mono ?_
  rintro e w3 ⟨Aw, nw, cw, rfl, hOw, hB⟩
  have hNw : nw ≤ 1048576 := by have := OI.len hOw; have := HLn.out; omega
  have hs3 : w2.heap.size ≤ w3.heap.size := hB.size
  replace hBt := hBt.trans (hB.mono hBt.size)
  replace hOs1 := hOs1.below hB (Nat.le_refl _)
  replace hOs2 := hOs2.below hB (Nat.le_refl _)
  clear hB
  have hLw := Lib.hid (OI.lt hOw)
  go_wp2_with fail
  refine (toIntS A1 _ z1 c1 _ (hr1.up (Nat.le_refl _) hBt (Nat.le_refl _)) hn1).mono ?_
  rintro e w4 ⟨Ax1, nx1, cx1, rfl, hOx1, hB⟩
  have hNx1 : nx1 ≤ 1048576 := by have := OI.len hOx1; omega
  have hs4 : w3.heap.size ≤ w4.heap.size := hB.size
  replace hBt := hBt.trans (hB.mono hBt.size)
  replace hOs1 := hOs1.below hB (Nat.le_refl _)
  replace hOs2 := hOs2.below hB (Nat.le_refl _)
  replace hOw := hOw.below hB (Nat.le_refl _)
  clear hB
  have hLx1 := Lib.hid (OI.lt hOx1)
  go_wp2_with fail
  refine (toIntS A2 _ z2 c2 _ (hr2.up (Nat.le_refl _) hBt (Nat.le_refl _)) hn2).mono ?_
  rintro e w5 ⟨Ax2, nx2, cx2, rfl, hOx2, hB⟩
  have hNx2 : nx2 ≤ 1048576 := by have := OI.len hOx2; omega
  have hs5 : w4.heap.size ≤ w5.heap.size := hB.size
  replace hBt := hBt.trans (hB.mono hBt.size)
  replace hOs1 := hOs1.below hB (Nat.le_refl _)
  replace hOs2 := hOs2.below hB (Nat.le_refl _)
  replace hOw := hOw.below hB (Nat.le_refl _)
  replace hOx1 := hOx1.below hB (Nat.le_refl _)
  clear hB
  have hLx2 := Lib.hid (OI.lt hOx2)
  go_wp2_with fail
  refine (ringNext a0 _ _ z1 _ _ _ z2 _ _ hOx1.reads hNx1 hOx2.reads hNx2).mono ?_
  rintro e w6 ⟨Ag, ng, cg, rfl, hOg, hB⟩
  have hNg : ng ≤ 1048576 := by have := OI.len hOg; have := HLn.out; omega
  have hs6 : w5.heap.size ≤ w6.heap.size := hB.size
  replace hBt := hBt.trans (hB.mono hBt.size)
  replace hOs1 := hOs1.below hB (Nat.le_refl _)
  replace hOs2 := hOs2.below hB (Nat.le_refl _)
  replace hOw := hOw.below hB (Nat.le_refl _)
  replace hOx1 := hOx1.below hB (Nat.le_refl _)
  replace hOx2 := hOx2.below hB (Nat.le_refl _)
  clear hB
  have hLg := Lib.hid (OI.lt hOg)
  go_wp2_with fail
  refine (eqIntS' _ _ _ _ _ _ _ _ _ hOg.reads hOw.reads (by omega) (by omega)).mono ?_
  rintro e w7 ⟨rfl, hB⟩
  have hs7 : w6.heap.size ≤ w7.heap.size := hB.size
  replace hBt := hBt.trans (hB.mono hBt.size)
  replace hOs1 := hOs1.below hB (Nat.le_refl _)
  replace hOs2 := hOs2.below hB (Nat.le_refl _)
  replace hOw := hOw.below hB (Nat.le_refl _)
  replace hOx1 := hOx1.below hB (Nat.le_refl _)
  replace hOx2 := hOx2.below hB (Nat.le_refl _)
  replace hOg := hOg.below hB (Nat.le_refl _)
  clear hB
  go_wp2_with fail
  refine (toIntS A1 _ z1 c1 _ (hr1.up (Nat.le_refl _) hBt (Nat.le_refl _)) hn1).mono ?_
  rintro e w8 ⟨Ay1, ny1, cy1, rfl, hOy1, hB⟩
  have hNy1 : ny1 ≤ 1048576 := by have := OI.len hOy1; omega
  have hs8 : w7.heap.size ≤ w8.heap.size := hB.size
  replace hBt := hBt.trans (hB.mono hBt.size)
  replace hOs1 := hOs1.below hB (Nat.le_refl _)
  replace hOs2 := hOs2.below hB (Nat.le_refl _)
  replace hOw := hOw.below hB (Nat.le_refl _)
  replace hOx1 := hOx1.below hB (Nat.le_refl _)
  replace hOx2 := hOx2.below hB (Nat.le_refl _)
  replace hOg := hOg.below hB (Nat.le_refl _)
  clear hB
  have hLy1 := Lib.hid (OI.lt hOy1)
  have hE1 : eqL z1 z1 = true := eqL_self _
  go_wp2_with fail
  refine (eqIntS' _ _ _ _ _ _ _ _ _ hOx1.reads hOy1.reads (by omega) (by omega)).mono ?_
  rintro e w9 ⟨rfl, hB⟩
  have hs9 : w8.heap.size ≤ w9.heap.size := hB.size
  replace hBt := hBt.trans (hB.mono hBt.size)
  replace hOs1 := hOs1.below hB (Nat.le_refl _)
  replace hOs2 := hOs2.below hB (Nat.le_refl _)
  replace hOw := hOw.below hB (Nat.le_refl _)
  replace hOx1 := hOx1.below hB (Nat.le_refl _)
  replace hOx2 := hOx2.below hB (Nat.le_refl _)
  replace hOg := hOg.below hB (Nat.le_refl _)
  replace hOy1 := hOy1.below hB (Nat.le_refl _)
  clear hB
  go_wp2_with fail
  refine (toIntS A2 _ z2 c2 _ (hr2.up (Nat.le_refl _) hBt (Nat.le_refl _)) hn2).mono ?_
  rintro e w10 ⟨Ay2, ny2, cy2, rfl, hOy2, hB⟩
  have hNy2 : ny2 ≤ 1048576 := by have := OI.len hOy2; omega
  have hs10 : w9.heap.size ≤ w10.heap.size := hB.size
  replace hBt := hBt.trans (hB.mono hBt.size)
  replace hOs1 := hOs1.below hB (Nat.le_refl _)
  replace hOs2 := hOs2.below hB (Nat.le_refl _)
  replace hOw := hOw.below hB (Nat.le_refl _)
  replace hOx1 := hOx1.below hB (Nat.le_refl _)
  replace hOx2 := hOx2.below hB (Nat.le_refl _)
  replace hOg := hOg.below hB (Nat.le_refl _)
  replace hOy1 := hOy1.below hB (Nat.le_refl _)
  clear hB
  have hLy2 := Lib.hid (OI.lt hOy2)
  have hE2 : eqL z2 z2 = true := eqL_self _
  go_wp2_with fail
  refine (eqIntS' _ _ _ _ _ _ _ _ _ hOx2.reads hOy2.reads (by omega) (by omega)).mono ?_
  rintro e w11 ⟨rfl, hB⟩
  have hs11 : w10.heap.size ≤ w11.heap.size := hB.size
  replace hBt := hBt.trans (hB.mono hBt.size)
  replace hOs1 := hOs1.below hB (Nat.le_refl _)
  replace hOs2 := hOs2.below hB (Nat.le_refl _)
  replace hOw := hOw.below hB (Nat.le_refl _)
  replace hOx1 := hOx1.below hB (Nat.le_refl _)
  replace hOx2 := hOx2.below hB (Nat.le_refl _)
  replace hOg := hOg.below hB (Nat.le_refl _)
  replace hOy1 := hOy1.below hB (Nat.le_refl _)
  replace hOy2 := hOy2.below hB (Nat.le_refl _)
  clear hB
  go_wp2_with fail
  refine (markIntS _ _ _ _ _ _ _ hOx1 (by omega) (by omega) (by omega)).mono ?_
  rintro e w12 ⟨rfl, hO', hG⟩
  clear hOx1
  have hOx1 := hO'
  clear hO'
  have hs12 : w11.heap.size ≤ w12.heap.size := hG.size
  replace hBt := hBt.grown hG hBt.size (fun k hk => by have := (hLx1.out k hk).1; omega)
  replace hOs1 := hOs1.sepV hG (fun j k hj hk => by have := hLs1.out j hj; have := hLx1.out k hk; omega)
  replace hOs2 := hOs2.sepV hG (fun j k hj hk => by have := hLs2.out j hj; have := hLx1.out k hk; omega)
  replace hOw := hOw.sepV hG (fun j k hj hk => by have := hLw.out j hj; have := hLx1.out k hk; omega)
  replace hOx2 := hOx2.sepV hG (fun j k hj hk => by have := hLx2.out j hj; have := hLx1.out k hk; omega)
  replace hOg := hOg.sepV hG (fun j k hj hk => by have := hLg.out j hj; have := hLx1.out k hk; omega)
  replace hOy1 := hOy1.sepV hG (fun j k hj hk => by have := hLy1.out j hj; have := hLx1.out k hk; omega)
  replace hOy2 := hOy2.sepV hG (fun j k hj hk => by have := hLy2.out j hj; have := hLx1.out k hk; omega)
  clear hG
  go_wp2_with fail
  refine (markIntS _ _ _ _ _ _ _ hOx2 (by omega) (by omega) (by omega)).mono ?_
  rintro e w13 ⟨rfl, hO', hG⟩
  clear hOx2
  have hOx2 := hO'
  clear hO'
  have hs13 : w12.heap.size ≤ w13.heap.size := hG.size
  replace hBt := hBt.grown hG hBt.size (fun k hk => by have := (hLx2.out k hk).1; omega)
  replace hOs1 := hOs1.sepV hG (fun j k hj hk => by have := hLs1.out j hj; have := hLx2.out k hk; omega)
  replace hOs2 := hOs2.sepV hG (fun j k hj hk => by have := hLs2.out j hj; have := hLx2.out k hk; omega)
  replace hOw := hOw.sepV hG (fun j k hj hk => by have := hLw.out j hj; have := hLx2.out k hk; omega)
  replace hOx1 := hOx1.sepV hG (fun j k hj hk => by have := hLx1.out j hj; have := hLx2.out k hk; omega)
  replace hOg := hOg.sepV hG (fun j k hj hk => by have := hLg.out j hj; have := hLx2.out k hk; omega)
  replace hOy1 := hOy1.sepV hG (fun j k hj hk => by have := hLy1.out j hj; have := hLx2.out k hk; omega)
  replace hOy2 := hOy2.sepV hG (fun j k hj hk => by have := hLy2.out j hj; have := hLx2.out k hk; omega)
  clear hG
  go_wp2_with fail
  refine (eqIntS' _ _ _ _ _ _ _ _ _ hOg.reads hOw.reads (by omega) (by omega)).mono ?_
  rintro e w14 ⟨rfl, hB⟩
  have hs14 : w13.heap.size ≤ w14.heap.size := hB.size
  replace hBt := hBt.trans (hB.mono hBt.size)
  replace hOs1 := hOs1.below hB (Nat.le_refl _)
  replace hOs2 := hOs2.below hB (Nat.le_refl _)
  replace hOw := hOw.below hB (Nat.le_refl _)
  replace hOx1 := hOx1.below hB (Nat.le_refl _)
  replace hOx2 := hOx2.below hB (Nat.le_refl _)
  replace hOg := hOg.below hB (Nat.le_refl _)
  replace hOy1 := hOy1.below hB (Nat.le_refl _)
  replace hOy2 := hOy2.below hB (Nat.le_refl _)
  clear hB
  go_wp2_with fail
  refine (markIntS _ _ _ _ _ _ _ hOg (by omega) (by omega) (by omega)).mono ?_
  rintro e w15 ⟨rfl, hO', hG⟩
  clear hOg
  have hOg := hO'
  clear hO'
  have hs15 : w14.heap.size ≤ w15.heap.size := hG.size
  replace hBt := hBt.grown hG hBt.size (fun k hk => by have := (hLg.out k hk).1; omega)
  replace hOs1 := hOs1.sepV hG (fun j k hj hk => by have := hLs1.out j hj; have := hLg.out k hk; omega)
  replace hOs2 := hOs2.sepV hG (fun j k hj hk => by have := hLs2.out j hj; have := hLg.out k hk; omega)
  replace hOw := hOw.sepV hG (fun j k hj hk => by have := hLw.out j hj; have := hLg.out k hk; omega)
  replace hOx1 := hOx1.sepV hG (fun j k hj hk => by have := hLx1.out j hj; have := hLg.out k hk; omega)
  replace hOx2 := hOx2.sepV hG (fun j k hj hk => by have := hLx2.out j hj; have := hLg.out k hk; omega)
  replace hOy1 := hOy1.sepV hG (fun j k hj hk => by have := hLy1.out j hj; have := hLg.out k hk; omega)
  replace hOy2 := hOy2.sepV hG (fun j k hj hk => by have := hLy2.out j hj; have := hLg.out k hk; omega)
  clear hG
  go_wp2_with fail
  refine (heldIntS _ _ _ _ _ hOg.reads (by omega) (by omega) (by omega)).mono ?_
  rintro e w' ⟨rfl, rfl⟩
  go_wp2_with fail
  refine (toIntS A1 _ z1 c1 _ (hr1.up (Nat.le_refl _) hBt (Nat.le_refl _)) hn1).mono ?_
  rintro e w16 ⟨Ah1, nh1, ch1, rfl, hOh1, hB⟩
  have hNh1 : nh1 ≤ 1048576 := by have := OI.len hOh1; omega
  have hs16 : w15.heap.size ≤ w16.heap.size := hB.size
  replace hBt := hBt.trans (hB.mono hBt.size)
  replace hOs1 := hOs1.below hB (Nat.le_refl _)
  replace hOs2 := hOs2.below hB (Nat.le_refl _)
  replace hOw := hOw.below hB (Nat.le_refl _)
  replace hOx1 := hOx1.below hB (Nat.le_refl _)
  replace hOx2 := hOx2.below hB (Nat.le_refl _)
  replace hOg := hOg.below hB (Nat.le_refl _)
  replace hOy1 := hOy1.below hB (Nat.le_refl _)
  replace hOy2 := hOy2.below hB (Nat.le_refl _)
  clear hB
  have hLh1 := Lib.hid (OI.lt hOh1)
  go_wp2_with fail
  refine (toIntS A2 _ z2 c2 _ (hr2.up (Nat.le_refl _) hBt (Nat.le_refl _)) hn2).mono ?_
  rintro e w17 ⟨Ah2, nh2, ch2, rfl, hOh2, hB⟩
  have hNh2 : nh2 ≤ 1048576 := by have := OI.len hOh2; omega
  have hs17 : w16.heap.size ≤ w17.heap.size := hB.size
  replace hBt := hBt.trans (hB.mono hBt.size)
  replace hOs1 := hOs1.below hB (Nat.le_refl _)
  replace hOs2 := hOs2.below hB (Nat.le_refl _)
  replace hOw := hOw.below hB (Nat.le_refl _)
  replace hOx1 := hOx1.below hB (Nat.le_refl _)
  replace hOx2 := hOx2.below hB (Nat.le_refl _)
  replace hOg := hOg.below hB (Nat.le_refl _)
  replace hOy1 := hOy1.below hB (Nat.le_refl _)
  replace hOy2 := hOy2.below hB (Nat.le_refl _)
  replace hOh1 := hOh1.below hB (Nat.le_refl _)
  clear hB
  have hLh2 := Lib.hid (OI.lt hOh2)
  go_wp2_with fail
  refine (ringNext a0 _ _ z1 _ _ _ z2 _ _ hOh1.reads hNh1 hOh2.reads hNh2).mono ?_
  rintro e w18 ⟨Ah, nh, ch, rfl, hOh, hB⟩
  have hNh : nh ≤ 1048576 := by have := OI.len hOh; have := HLn.out; omega
  have hs18 : w17.heap.size ≤ w18.heap.size := hB.size
  replace hBt := hBt.trans (hB.mono hBt.size)
  replace hOs1 := hOs1.below hB (Nat.le_refl _)
  replace hOs2 := hOs2.below hB (Nat.le_refl _)
  replace hOw := hOw.below hB (Nat.le_refl _)
  replace hOx1 := hOx1.below hB (Nat.le_refl _)
  replace hOx2 := hOx2.below hB (Nat.le_refl _)
  replace hOg := hOg.below hB (Nat.le_refl _)
  replace hOy1 := hOy1.below hB (Nat.le_refl _)
  replace hOy2 := hOy2.below hB (Nat.le_refl _)
  replace hOh1 := hOh1.below hB (Nat.le_refl _)
  replace hOh2 := hOh2.below hB (Nat.le_refl _)
  clear hB
  have hLh := Lib.hid (OI.lt hOh)
  go_wp2_with fail
  refine (eqIntS' _ _ _ _ _ _ _ _ _ hOh.reads hOw.reads (by omega) (by omega)).mono ?_
  rintro e w19 ⟨rfl, hB⟩
  have hs19 : w18.heap.size ≤ w19.heap.size := hB.size
  replace hBt := hBt.trans (hB.mono hBt.size)
  replace hOs1 := hOs1.below hB (Nat.le_refl _)
  replace hOs2 := hOs2.below hB (Nat.le_refl _)
  replace hOw := hOw.below hB (Nat.le_refl _)
  replace hOx1 := hOx1.below hB (Nat.le_refl _)
  replace hOx2 := hOx2.below hB (Nat.le_refl _)
  replace hOg := hOg.below hB (Nat.le_refl _)
  replace hOy1 := hOy1.below hB (Nat.le_refl _)
  replace hOy2 := hOy2.below hB (Nat.le_refl _)
  replace hOh1 := hOh1.below hB (Nat.le_refl _)
  replace hOh2 := hOh2.below hB (Nat.le_refl _)
  replace hOh := hOh.below hB (Nat.le_refl _)
  clear hB
  go_wp2_with fail
  refine (heldIntS _ _ _ _ _ hOg.reads (by omega) (by omega) (by omega)).mono ?_
  rintro e w' ⟨rfl, rfl⟩
  go_wp2
  go_ret
  exact ⟨rfl, hBt⟩
set_option maxHeartbeats 2000000 in
theorem walkFnExactRingBefore (w : World) (a0 : Int) (_w0 : (Lit.int .i64 a0).wf = true) (A1 : Option Addr) (z1 : List Int) (c1 : Nat) (hc1 : z1.length ≤ c1 ∧ c1 ≤ maxLen) (hr1 : RI w w.heap.size A1 z1.length z1) (A2 : Option Addr) (z2 : List Int) (c2 : Nat) (hc2 : z2.length ≤ c2 ∧ c2 ≤ maxLen) (hr2 : RI w w.heap.size A2 z2.length z2) :
    Calls Try.prog 7 #[.int .i64 a0, .slice A1 z1.length c1, .slice A2 z2.length c2] w fun e w' => e = .returned (.bool true) ∧ Below w.heap.size w w' := by
  have hcm1 := hc1.2
  unfold maxLen at hcm1
  have hcm2 := hc2.2
  unfold maxLen at hcm2
  by_cases hl1 : 1048576 < z1.length
  · go_enter Try.func7, Try.ntmps7
    go_wp2
    go_ret
    exact ⟨rfl, Below.refl _ _⟩
  have hn1 : z1.length ≤ 1048576 := by omega
  by_cases hl2 : 1048576 < z2.length
  · go_enter Try.func7, Try.ntmps7
    go_wp2
    go_ret
    exact ⟨rfl, Below.refl _ _⟩
  have hn2 : z2.length ≤ 1048576 := by omega
  clear _w0
  have hE : eqL (rnL a0 z2 z1) (rnL a0 z2 z1) = true := eqL_self _
  have hLn : (rnL a0 z2 z1).length ≤ 1048576 := Nat.le_trans (rn_len _ _ _) (by omega)
  have HLn := Lib.hid hLn
  clear hLn
  go_enter Try.func7, Try.ntmps7
  have hBt : Below w.heap.size w w := Below.refl _ _
  go_wp2_with fail
  refine (toIntS A1 _ z1 c1 _ (hr1.up (Nat.le_refl _) hBt (Nat.le_refl _)) hn1).mono ?_
  rintro e w1 ⟨As1, ns1, cs1, rfl, hOs1, hB⟩
  have hNs1 : ns1 ≤ 1048576 := by have := OI.len hOs1; omega
  have hs1 : w.heap.size ≤ w1.heap.size := hB.size
  replace hBt := hBt.trans (hB.mono hBt.size)
  clear hB
  have hLs1 := Lib.hid (OI.lt hOs1)
  go_wp2_with fail
  refine (toIntS A2 _ z2 c2 _ (hr2.up (Nat.le_refl _) hBt (Nat.le_refl _)) hn2).mono ?_
  rintro e w2 ⟨As2, ns2, cs2, rfl, hOs2, hB⟩
  have hNs2 : ns2 ≤ 1048576 := by have := OI.len hOs2; omega
  have hs2 : w1.heap.size ≤ w2.heap.size := hB.size
  replace hBt := hBt.trans (hB.mono hBt.size)
  replace hOs1 := hOs1.below hB (Nat.le_refl _)
  clear hB
  have hLs2 := Lib.hid (OI.lt hOs2)
  go_wp2_with fail
  refine (ringBeforeS a0 _ _ z1 _ _ _ z2 _ _ hOs1.reads hNs1 hOs2.reads hNs2).mono ?_
  rintro e w3 ⟨Aw, nw, cw, rfl, hOw, hB⟩
  have hNw : nw ≤ 1048576 := by have := OI.len hOw; have := HLn.out; omega
  have hs3 : w2.heap.size ≤ w3.heap.size := hB.size
  replace hBt := hBt.trans (hB.mono hBt.size)
  replace hOs1 := hOs1.below hB (Nat.le_refl _)
  replace hOs2 := hOs2.below hB (Nat.le_refl _)
  clear hB
  have hLw := Lib.hid (OI.lt hOw)
  go_wp2_with fail
  refine (toIntS A1 _ z1 c1 _ (hr1.up (Nat.le_refl _) hBt (Nat.le_refl _)) hn1).mono ?_
  rintro e w4 ⟨Ax1, nx1, cx1, rfl, hOx1, hB⟩
  have hNx1 : nx1 ≤ 1048576 := by have := OI.len hOx1; omega
  have hs4 : w3.heap.size ≤ w4.heap.size := hB.size
  replace hBt := hBt.trans (hB.mono hBt.size)
  replace hOs1 := hOs1.below hB (Nat.le_refl _)
  replace hOs2 := hOs2.below hB (Nat.le_refl _)
  replace hOw := hOw.below hB (Nat.le_refl _)
  clear hB
  have hLx1 := Lib.hid (OI.lt hOx1)
  go_wp2_with fail
  refine (toIntS A2 _ z2 c2 _ (hr2.up (Nat.le_refl _) hBt (Nat.le_refl _)) hn2).mono ?_
  rintro e w5 ⟨Ax2, nx2, cx2, rfl, hOx2, hB⟩
  have hNx2 : nx2 ≤ 1048576 := by have := OI.len hOx2; omega
  have hs5 : w4.heap.size ≤ w5.heap.size := hB.size
  replace hBt := hBt.trans (hB.mono hBt.size)
  replace hOs1 := hOs1.below hB (Nat.le_refl _)
  replace hOs2 := hOs2.below hB (Nat.le_refl _)
  replace hOw := hOw.below hB (Nat.le_refl _)
  replace hOx1 := hOx1.below hB (Nat.le_refl _)
  clear hB
  have hLx2 := Lib.hid (OI.lt hOx2)
  go_wp2_with fail
  refine (ringBefore a0 _ _ z1 _ _ _ z2 _ _ hOx1.reads hNx1 hOx2.reads hNx2).mono ?_
  rintro e w6 ⟨Ag, ng, cg, rfl, hOg, hB⟩
  have hNg : ng ≤ 1048576 := by have := OI.len hOg; have := HLn.out; omega
  have hs6 : w5.heap.size ≤ w6.heap.size := hB.size
  replace hBt := hBt.trans (hB.mono hBt.size)
  replace hOs1 := hOs1.below hB (Nat.le_refl _)
  replace hOs2 := hOs2.below hB (Nat.le_refl _)
  replace hOw := hOw.below hB (Nat.le_refl _)
  replace hOx1 := hOx1.below hB (Nat.le_refl _)
  replace hOx2 := hOx2.below hB (Nat.le_refl _)
  clear hB
  have hLg := Lib.hid (OI.lt hOg)
  go_wp2_with fail
  refine (eqIntS' _ _ _ _ _ _ _ _ _ hOg.reads hOw.reads (by omega) (by omega)).mono ?_
  rintro e w7 ⟨rfl, hB⟩
  have hs7 : w6.heap.size ≤ w7.heap.size := hB.size
  replace hBt := hBt.trans (hB.mono hBt.size)
  replace hOs1 := hOs1.below hB (Nat.le_refl _)
  replace hOs2 := hOs2.below hB (Nat.le_refl _)
  replace hOw := hOw.below hB (Nat.le_refl _)
  replace hOx1 := hOx1.below hB (Nat.le_refl _)
  replace hOx2 := hOx2.below hB (Nat.le_refl _)
  replace hOg := hOg.below hB (Nat.le_refl _)
  clear hB
  go_wp2_with fail
  refine (toIntS A1 _ z1 c1 _ (hr1.up (Nat.le_refl _) hBt (Nat.le_refl _)) hn1).mono ?_
  rintro e w8 ⟨Ay1, ny1, cy1, rfl, hOy1, hB⟩
  have hNy1 : ny1 ≤ 1048576 := by have := OI.len hOy1; omega
  have hs8 : w7.heap.size ≤ w8.heap.size := hB.size
  replace hBt := hBt.trans (hB.mono hBt.size)
  replace hOs1 := hOs1.below hB (Nat.le_refl _)
  replace hOs2 := hOs2.below hB (Nat.le_refl _)
  replace hOw := hOw.below hB (Nat.le_refl _)
  replace hOx1 := hOx1.below hB (Nat.le_refl _)
  replace hOx2 := hOx2.below hB (Nat.le_refl _)
  replace hOg := hOg.below hB (Nat.le_refl _)
  clear hB
  have hLy1 := Lib.hid (OI.lt hOy1)
  have hE1 : eqL z1 z1 = true := eqL_self _
  go_wp2_with fail
  refine (eqIntS' _ _ _ _ _ _ _ _ _ hOx1.reads hOy1.reads (by omega) (by omega)).mono ?_
  rintro e w9 ⟨rfl, hB⟩
  have hs9 : w8.heap.size ≤ w9.heap.size := hB.size
  replace hBt := hBt.trans (hB.mono hBt.size)
  replace hOs1 := hOs1.below hB (Nat.le_refl _)
  replace hOs2 := hOs2.below hB (Nat.le_refl _)
  replace hOw := hOw.below hB (Nat.le_refl _)
  replace hOx1 := hOx1.below hB (Nat.le_refl _)
  replace hOx2 := hOx2.below hB (Nat.le_refl _)
  replace hOg := hOg.below hB (Nat.le_refl _)
  replace hOy1 := hOy1.below hB (Nat.le_refl _)
  clear hB
  go_wp2_with fail
  refine (toIntS A2 _ z2 c2 _ (hr2.up (Nat.le_refl _) hBt (Nat.le_refl _)) hn2).mono ?_
  rintro e w10 ⟨Ay2, ny2, cy2, rfl, hOy2, hB⟩
  have hNy2 : ny2 ≤ 1048576 := by have := OI.len hOy2; omega
  have hs10 : w9.heap.size ≤ w10.heap.size := hB.size
  replace hBt := hBt.trans (hB.mono hBt.size)
  replace hOs1 := hOs1.below hB (Nat.le_refl _)
  replace hOs2 := hOs2.below hB (Nat.le_refl _)
  replace hOw := hOw.below hB (Nat.le_refl _)
  replace hOx1 := hOx1.below hB (Nat.le_refl _)
  replace hOx2 := hOx2.below hB (Nat.le_refl _)
  replace hOg := hOg.below hB (Nat.le_refl _)
  replace hOy1 := hOy1.below hB (Nat.le_refl _)
  clear hB
  have hLy2 := Lib.hid (OI.lt hOy2)
  have hE2 : eqL z2 z2 = true := eqL_self _
  go_wp2_with fail
  refine (eqIntS' _ _ _ _ _ _ _ _ _ hOx2.reads hOy2.reads (by omega) (by omega)).mono ?_
  rintro e w11 ⟨rfl, hB⟩
  have hs11 : w10.heap.size ≤ w11.heap.size := hB.size
  replace hBt := hBt.trans (hB.mono hBt.size)
  replace hOs1 := hOs1.below hB (Nat.le_refl _)
  replace hOs2 := hOs2.below hB (Nat.le_refl _)
  replace hOw := hOw.below hB (Nat.le_refl _)
  replace hOx1 := hOx1.below hB (Nat.le_refl _)
  replace hOx2 := hOx2.below hB (Nat.le_refl _)
  replace hOg := hOg.below hB (Nat.le_refl _)
  replace hOy1 := hOy1.below hB (Nat.le_refl _)
  replace hOy2 := hOy2.below hB (Nat.le_refl _)
  clear hB
  go_wp2_with fail
  refine (markIntS _ _ _ _ _ _ _ hOx1 (by omega) (by omega) (by omega)).mono ?_
  rintro e w12 ⟨rfl, hO', hG⟩
  clear hOx1
  have hOx1 := hO'
  clear hO'
  have hs12 : w11.heap.size ≤ w12.heap.size := hG.size
  replace hBt := hBt.grown hG hBt.size (fun k hk => by have := (hLx1.out k hk).1; omega)
  replace hOs1 := hOs1.sepV hG (fun j k hj hk => by have := hLs1.out j hj; have := hLx1.out k hk; omega)
  replace hOs2 := hOs2.sepV hG (fun j k hj hk => by have := hLs2.out j hj; have := hLx1.out k hk; omega)
  replace hOw := hOw.sepV hG (fun j k hj hk => by have := hLw.out j hj; have := hLx1.out k hk; omega)
  replace hOx2 := hOx2.sepV hG (fun j k hj hk => by have := hLx2.out j hj; have := hLx1.out k hk; omega)
  replace hOg := hOg.sepV hG (fun j k hj hk => by have := hLg.out j hj; have := hLx1.out k hk; omega)
  replace hOy1 := hOy1.sepV hG (fun j k hj hk => by have := hLy1.out j hj; have := hLx1.out k hk; omega)
  replace hOy2 := hOy2.sepV hG (fun j k hj hk => by have := hLy2.out j hj; have := hLx1.out k hk; omega)
  clear hG
  go_wp2_with fail
  refine (markIntS _ _ _ _ _ _ _ hOx2 (by omega) (by omega) (by omega)).mono ?_
  rintro e w13 ⟨rfl, hO', hG⟩
  clear hOx2
  have hOx2 := hO'
  clear hO'
  have hs13 : w12.heap.size ≤ w13.heap.size := hG.size
  replace hBt := hBt.grown hG hBt.size (fun k hk => by have := (hLx2.out k hk).1; omega)
  replace hOs1 := hOs1.sepV hG (fun j k hj hk => by have := hLs1.out j hj; have := hLx2.out k hk; omega)
  replace hOs2 := hOs2.sepV hG (fun j k hj hk => by have := hLs2.out j hj; have := hLx2.out k hk; omega)
  replace hOw := hOw.sepV hG (fun j k hj hk => by have := hLw.out j hj; have := hLx2.out k hk; omega)
  replace hOx1 := hOx1.sepV hG (fun j k hj hk => by have := hLx1.out j hj; have := hLx2.out k hk; omega)
  replace hOg := hOg.sepV hG (fun j k hj hk => by have := hLg.out j hj; have := hLx2.out k hk; omega)
  replace hOy1 := hOy1.sepV hG (fun j k hj hk => by have := hLy1.out j hj; have := hLx2.out k hk; omega)
  replace hOy2 := hOy2.sepV hG (fun j k hj hk => by have := hLy2.out j hj; have := hLx2.out k hk; omega)
  clear hG
  go_wp2_with fail
  refine (eqIntS' _ _ _ _ _ _ _ _ _ hOg.reads hOw.reads (by omega) (by omega)).mono ?_
  rintro e w14 ⟨rfl, hB⟩
  have hs14 : w13.heap.size ≤ w14.heap.size := hB.size
  replace hBt := hBt.trans (hB.mono hBt.size)
  replace hOs1 := hOs1.below hB (Nat.le_refl _)
  replace hOs2 := hOs2.below hB (Nat.le_refl _)
  replace hOw := hOw.below hB (Nat.le_refl _)
  replace hOx1 := hOx1.below hB (Nat.le_refl _)
  replace hOx2 := hOx2.below hB (Nat.le_refl _)
  replace hOg := hOg.below hB (Nat.le_refl _)
  replace hOy1 := hOy1.below hB (Nat.le_refl _)
  replace hOy2 := hOy2.below hB (Nat.le_refl _)
  clear hB
  go_wp2_with fail
  refine (markIntS _ _ _ _ _ _ _ hOg (by omega) (by omega) (by omega)).mono ?_
  rintro e w15 ⟨rfl, hO', hG⟩
  clear hOg
  have hOg := hO'
  clear hO'
  have hs15 : w14.heap.size ≤ w15.heap.size := hG.size
  replace hBt := hBt.grown hG hBt.size (fun k hk => by have := (hLg.out k hk).1; omega)
  replace hOs1 := hOs1.sepV hG (fun j k hj hk => by have := hLs1.out j hj; have := hLg.out k hk; omega)
  replace hOs2 := hOs2.sepV hG (fun j k hj hk => by have := hLs2.out j hj; have := hLg.out k hk; omega)
  replace hOw := hOw.sepV hG (fun j k hj hk => by have := hLw.out j hj; have := hLg.out k hk; omega)
  replace hOx1 := hOx1.sepV hG (fun j k hj hk => by have := hLx1.out j hj; have := hLg.out k hk; omega)
  replace hOx2 := hOx2.sepV hG (fun j k hj hk => by have := hLx2.out j hj; have := hLg.out k hk; omega)
  replace hOy1 := hOy1.sepV hG (fun j k hj hk => by have := hLy1.out j hj; have := hLg.out k hk; omega)
  replace hOy2 := hOy2.sepV hG (fun j k hj hk => by have := hLy2.out j hj; have := hLg.out k hk; omega)
  clear hG
  go_wp2_with fail
  refine (heldIntS _ _ _ _ _ hOg.reads (by omega) (by omega) (by omega)).mono ?_
  rintro e w' ⟨rfl, rfl⟩
  go_wp2_with fail
  refine (toIntS A1 _ z1 c1 _ (hr1.up (Nat.le_refl _) hBt (Nat.le_refl _)) hn1).mono ?_
  rintro e w16 ⟨Ah1, nh1, ch1, rfl, hOh1, hB⟩
  have hNh1 : nh1 ≤ 1048576 := by have := OI.len hOh1; omega
  have hs16 : w15.heap.size ≤ w16.heap.size := hB.size
  replace hBt := hBt.trans (hB.mono hBt.size)
  replace hOs1 := hOs1.below hB (Nat.le_refl _)
  replace hOs2 := hOs2.below hB (Nat.le_refl _)
  replace hOw := hOw.below hB (Nat.le_refl _)
  replace hOx1 := hOx1.below hB (Nat.le_refl _)
  replace hOx2 := hOx2.below hB (Nat.le_refl _)
  replace hOg := hOg.below hB (Nat.le_refl _)
  replace hOy1 := hOy1.below hB (Nat.le_refl _)
  replace hOy2 := hOy2.below hB (Nat.le_refl _)
  clear hB
  have hLh1 := Lib.hid (OI.lt hOh1)
  go_wp2_with fail
  refine (toIntS A2 _ z2 c2 _ (hr2.up (Nat.le_refl _) hBt (Nat.le_refl _)) hn2).mono ?_
  rintro e w17 ⟨Ah2, nh2, ch2, rfl, hOh2, hB⟩
  have hNh2 : nh2 ≤ 1048576 := by have := OI.len hOh2; omega
  have hs17 : w16.heap.size ≤ w17.heap.size := hB.size
  replace hBt := hBt.trans (hB.mono hBt.size)
  replace hOs1 := hOs1.below hB (Nat.le_refl _)
  replace hOs2 := hOs2.below hB (Nat.le_refl _)
  replace hOw := hOw.below hB (Nat.le_refl _)
  replace hOx1 := hOx1.below hB (Nat.le_refl _)
  replace hOx2 := hOx2.below hB (Nat.le_refl _)
  replace hOg := hOg.below hB (Nat.le_refl _)
  replace hOy1 := hOy1.below hB (Nat.le_refl _)
  replace hOy2 := hOy2.below hB (Nat.le_refl _)
  replace hOh1 := hOh1.below hB (Nat.le_refl _)
  clear hB
  have hLh2 := Lib.hid (OI.lt hOh2)
  go_wp2_with fail
  refine (ringBefore a0 _ _ z1 _ _ _ z2 _ _ hOh1.reads hNh1 hOh2.reads hNh2).mono ?_
  rintro e w18 ⟨Ah, nh, ch, rfl, hOh, hB⟩
  have hNh : nh ≤ 1048576 := by have := OI.len hOh; have := HLn.out; omega
  have hs18 : w17.heap.size ≤ w18.heap.size := hB.size
  replace hBt := hBt.trans (hB.mono hBt.size)
  replace hOs1 := hOs1.below hB (Nat.le_refl _)
  replace hOs2 := hOs2.below hB (Nat.le_refl _)
  replace hOw := hOw.below hB (Nat.le_refl _)
  replace hOx1 := hOx1.below hB (Nat.le_refl _)
  replace hOx2 := hOx2.below hB (Nat.le_refl _)
  replace hOg := hOg.below hB (Nat.le_refl _)
  replace hOy1 := hOy1.below hB (Nat.le_refl _)
  replace hOy2 := hOy2.below hB (Nat.le_refl _)
  replace hOh1 := hOh1.below hB (Nat.le_refl _)
  replace hOh2 := hOh2.below hB (Nat.le_refl _)
  clear hB
  have hLh := Lib.hid (OI.lt hOh)
  go_wp2_with fail
  refine (eqIntS' _ _ _ _ _ _ _ _ _ hOh.reads hOw.reads (by omega) (by omega)).mono ?_
  rintro e w19 ⟨rfl, hB⟩
  have hs19 : w18.heap.size ≤ w19.heap.size := hB.size
  replace hBt := hBt.trans (hB.mono hBt.size)
  replace hOs1 := hOs1.below hB (Nat.le_refl _)
  replace hOs2 := hOs2.below hB (Nat.le_refl _)
  replace hOw := hOw.below hB (Nat.le_refl _)
  replace hOx1 := hOx1.below hB (Nat.le_refl _)
  replace hOx2 := hOx2.below hB (Nat.le_refl _)
  replace hOg := hOg.below hB (Nat.le_refl _)
  replace hOy1 := hOy1.below hB (Nat.le_refl _)
  replace hOy2 := hOy2.below hB (Nat.le_refl _)
  replace hOh1 := hOh1.below hB (Nat.le_refl _)
  replace hOh2 := hOh2.below hB (Nat.le_refl _)
  replace hOh := hOh.below hB (Nat.le_refl _)
  clear hB
  go_wp2_with fail
  refine (heldIntS _ _ _ _ _ hOg.reads (by omega) (by omega) (by omega)).mono ?_
  rintro e w' ⟨rfl, rfl⟩
  go_wp2
  go_ret
  exact ⟨rfl, hBt⟩
end Go.Proofs.Ytmbcolkhmleibaa
