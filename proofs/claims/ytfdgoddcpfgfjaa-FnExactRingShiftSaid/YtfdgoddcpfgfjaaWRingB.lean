/- The walks of exact laws on rings: flip, add, shift. -/
import Derived.Test.YtfdgoddcpfgfjaaRing2
namespace Go.Proofs.Ytfdgoddcpfgfjaa
open Go.RowKit
set_option linter.unusedVariables false

set_option maxHeartbeats 2000000 in
theorem walkFnExactRingFlip (w : World) (A0 : Option Addr) (z0 : List Int) (c0 : Nat) (hc0 : z0.length ≤ c0 ∧ c0 ≤ maxLen) (hr0 : RI w w.heap.size A0 z0.length z0) :
    Calls Try.prog 12 #[.slice A0 z0.length c0] w fun e w' => e = .returned (.bool true) ∧ Below w.heap.size w w' := by
  have hcm0 := hc0.2
  unfold maxLen at hcm0
  by_cases hl0 : 1048576 < z0.length
  · go_enter Try.func12, Try.ntmps12
    go_wp2
    go_ret
    exact ⟨rfl, Below.refl _ _⟩
  have hn0 : z0.length ≤ 1048576 := by omega
  have hE : eqL (rflL z0) (rflL z0) = true := eqL_self _
  have hLn : (rflL z0).length ≤ 1048576 := Nat.le_trans (rfl_len z0) (by omega)
  have HLn := Lib.hid hLn
  clear hLn
  go_enter Try.func12, Try.ntmps12
  have hBt : Below w.heap.size w w := Below.refl _ _
  go_wp2_with fail
  refine (toIntS A0 _ z0 c0 _ (hr0.up (Nat.le_refl _) hBt (Nat.le_refl _)) hn0).mono ?_
  rintro e w1 ⟨As0, ns0, cs0, rfl, hOs0, hB⟩
  have hNs0 : ns0 ≤ 1048576 := by have := OI.len hOs0; omega
  have hs1 : w.heap.size ≤ w1.heap.size := hB.size
  replace hBt := hBt.trans (hB.mono hBt.size)
  clear hB
  have hLs0 := Lib.hid (OI.lt hOs0)
  go_wp2_with fail
  refine (ringFlipS _ _ z0 _ _ hOs0.reads hNs0).mono ?_
  rintro e w2 ⟨Aw, nw, cw, rfl, hOw, hB⟩
  have hNw : nw ≤ 1048576 := by have := OI.len hOw; have := HLn.out; omega
  have hs2 : w1.heap.size ≤ w2.heap.size := hB.size
  replace hBt := hBt.trans (hB.mono hBt.size)
  replace hOs0 := hOs0.below hB (Nat.le_refl _)
  clear hB
  have hLw := Lib.hid (OI.lt hOw)
  go_wp2_with fail
  refine (toIntS A0 _ z0 c0 _ (hr0.up (Nat.le_refl _) hBt (Nat.le_refl _)) hn0).mono ?_
  rintro e w3 ⟨Ax0, nx0, cx0, rfl, hOx0, hB⟩
  have hNx0 : nx0 ≤ 1048576 := by have := OI.len hOx0; omega
  have hs3 : w2.heap.size ≤ w3.heap.size := hB.size
  replace hBt := hBt.trans (hB.mono hBt.size)
  replace hOs0 := hOs0.below hB (Nat.le_refl _)
  replace hOw := hOw.below hB (Nat.le_refl _)
  clear hB
  have hLx0 := Lib.hid (OI.lt hOx0)
  go_wp2_with fail
  refine (ringFlip _ _ z0 _ _ hOx0.reads hNx0).mono ?_
  rintro e w4 ⟨Ag, ng, cg, rfl, hOg, hB⟩
  have hNg : ng ≤ 1048576 := by have := OI.len hOg; have := HLn.out; omega
  have hs4 : w3.heap.size ≤ w4.heap.size := hB.size
  replace hBt := hBt.trans (hB.mono hBt.size)
  replace hOs0 := hOs0.below hB (Nat.le_refl _)
  replace hOw := hOw.below hB (Nat.le_refl _)
  replace hOx0 := hOx0.below hB (Nat.le_refl _)
  clear hB
  have hLg := Lib.hid (OI.lt hOg)
  go_wp2_with fail
  refine (eqIntS' _ _ _ _ _ _ _ _ _ hOg.reads hOw.reads (by omega) (by omega)).mono ?_
  rintro e w5 ⟨rfl, hB⟩
  have hs5 : w4.heap.size ≤ w5.heap.size := hB.size
  replace hBt := hBt.trans (hB.mono hBt.size)
  replace hOs0 := hOs0.below hB (Nat.le_refl _)
  replace hOw := hOw.below hB (Nat.le_refl _)
  replace hOx0 := hOx0.below hB (Nat.le_refl _)
  replace hOg := hOg.below hB (Nat.le_refl _)
  clear hB
  go_wp2_with fail
  refine (toIntS A0 _ z0 c0 _ (hr0.up (Nat.le_refl _) hBt (Nat.le_refl _)) hn0).mono ?_
  rintro e w6 ⟨Ay0, ny0, cy0, rfl, hOy0, hB⟩
  have hNy0 : ny0 ≤ 1048576 := by have := OI.len hOy0; omega
  have hs6 : w5.heap.size ≤ w6.heap.size := hB.size
  replace hBt := hBt.trans (hB.mono hBt.size)
  replace hOs0 := hOs0.below hB (Nat.le_refl _)
  replace hOw := hOw.below hB (Nat.le_refl _)
  replace hOx0 := hOx0.below hB (Nat.le_refl _)
  replace hOg := hOg.below hB (Nat.le_refl _)
  clear hB
  have hLy0 := Lib.hid (OI.lt hOy0)
  have hE0 : eqL z0 z0 = true := eqL_self _
  go_wp2_with fail
  refine (eqIntS' _ _ _ _ _ _ _ _ _ hOx0.reads hOy0.reads (by omega) (by omega)).mono ?_
  rintro e w7 ⟨rfl, hB⟩
  have hs7 : w6.heap.size ≤ w7.heap.size := hB.size
  replace hBt := hBt.trans (hB.mono hBt.size)
  replace hOs0 := hOs0.below hB (Nat.le_refl _)
  replace hOw := hOw.below hB (Nat.le_refl _)
  replace hOx0 := hOx0.below hB (Nat.le_refl _)
  replace hOg := hOg.below hB (Nat.le_refl _)
  replace hOy0 := hOy0.below hB (Nat.le_refl _)
  clear hB
  go_wp2_with fail
  refine (markIntS _ _ _ _ _ _ _ hOx0 (by omega) (by omega) (by omega)).mono ?_
  rintro e w8 ⟨rfl, hO', hG⟩
  clear hOx0
  have hOx0 := hO'
  clear hO'
  have hs8 : w7.heap.size ≤ w8.heap.size := hG.size
  replace hBt := hBt.grown hG hBt.size (fun k hk => by have := (hLx0.out k hk).1; omega)
  replace hOs0 := hOs0.sepV hG (fun j k hj hk => by have := hLs0.out j hj; have := hLx0.out k hk; omega)
  replace hOw := hOw.sepV hG (fun j k hj hk => by have := hLw.out j hj; have := hLx0.out k hk; omega)
  replace hOg := hOg.sepV hG (fun j k hj hk => by have := hLg.out j hj; have := hLx0.out k hk; omega)
  replace hOy0 := hOy0.sepV hG (fun j k hj hk => by have := hLy0.out j hj; have := hLx0.out k hk; omega)
  clear hG
  go_wp2_with fail
  refine (eqIntS' _ _ _ _ _ _ _ _ _ hOg.reads hOw.reads (by omega) (by omega)).mono ?_
  rintro e w9 ⟨rfl, hB⟩
  have hs9 : w8.heap.size ≤ w9.heap.size := hB.size
  replace hBt := hBt.trans (hB.mono hBt.size)
  replace hOs0 := hOs0.below hB (Nat.le_refl _)
  replace hOw := hOw.below hB (Nat.le_refl _)
  replace hOx0 := hOx0.below hB (Nat.le_refl _)
  replace hOg := hOg.below hB (Nat.le_refl _)
  replace hOy0 := hOy0.below hB (Nat.le_refl _)
  clear hB
  go_wp2_with fail
  refine (markIntS _ _ _ _ _ _ _ hOg (by omega) (by omega) (by omega)).mono ?_
  rintro e w10 ⟨rfl, hO', hG⟩
  clear hOg
  have hOg := hO'
  clear hO'
  have hs10 : w9.heap.size ≤ w10.heap.size := hG.size
  replace hBt := hBt.grown hG hBt.size (fun k hk => by have := (hLg.out k hk).1; omega)
  replace hOs0 := hOs0.sepV hG (fun j k hj hk => by have := hLs0.out j hj; have := hLg.out k hk; omega)
  replace hOw := hOw.sepV hG (fun j k hj hk => by have := hLw.out j hj; have := hLg.out k hk; omega)
  replace hOx0 := hOx0.sepV hG (fun j k hj hk => by have := hLx0.out j hj; have := hLg.out k hk; omega)
  replace hOy0 := hOy0.sepV hG (fun j k hj hk => by have := hLy0.out j hj; have := hLg.out k hk; omega)
  clear hG
  go_wp2_with fail
  refine (heldIntS _ _ _ _ _ hOg.reads (by omega) (by omega) (by omega)).mono ?_
  rintro e w' ⟨rfl, rfl⟩
  go_wp2_with fail
  refine (toIntS A0 _ z0 c0 _ (hr0.up (Nat.le_refl _) hBt (Nat.le_refl _)) hn0).mono ?_
  rintro e w11 ⟨Ah0, nh0, ch0, rfl, hOh0, hB⟩
  have hNh0 : nh0 ≤ 1048576 := by have := OI.len hOh0; omega
  have hs11 : w10.heap.size ≤ w11.heap.size := hB.size
  replace hBt := hBt.trans (hB.mono hBt.size)
  replace hOs0 := hOs0.below hB (Nat.le_refl _)
  replace hOw := hOw.below hB (Nat.le_refl _)
  replace hOx0 := hOx0.below hB (Nat.le_refl _)
  replace hOg := hOg.below hB (Nat.le_refl _)
  replace hOy0 := hOy0.below hB (Nat.le_refl _)
  clear hB
  have hLh0 := Lib.hid (OI.lt hOh0)
  go_wp2_with fail
  refine (ringFlip _ _ z0 _ _ hOh0.reads hNh0).mono ?_
  rintro e w12 ⟨Ah, nh, ch, rfl, hOh, hB⟩
  have hNh : nh ≤ 1048576 := by have := OI.len hOh; have := HLn.out; omega
  have hs12 : w11.heap.size ≤ w12.heap.size := hB.size
  replace hBt := hBt.trans (hB.mono hBt.size)
  replace hOs0 := hOs0.below hB (Nat.le_refl _)
  replace hOw := hOw.below hB (Nat.le_refl _)
  replace hOx0 := hOx0.below hB (Nat.le_refl _)
  replace hOg := hOg.below hB (Nat.le_refl _)
  replace hOy0 := hOy0.below hB (Nat.le_refl _)
  replace hOh0 := hOh0.below hB (Nat.le_refl _)
  clear hB
  have hLh := Lib.hid (OI.lt hOh)
  go_wp2_with fail
  refine (eqIntS' _ _ _ _ _ _ _ _ _ hOh.reads hOw.reads (by omega) (by omega)).mono ?_
  rintro e w13 ⟨rfl, hB⟩
  have hs13 : w12.heap.size ≤ w13.heap.size := hB.size
  replace hBt := hBt.trans (hB.mono hBt.size)
  replace hOs0 := hOs0.below hB (Nat.le_refl _)
  replace hOw := hOw.below hB (Nat.le_refl _)
  replace hOx0 := hOx0.below hB (Nat.le_refl _)
  replace hOg := hOg.below hB (Nat.le_refl _)
  replace hOy0 := hOy0.below hB (Nat.le_refl _)
  replace hOh0 := hOh0.below hB (Nat.le_refl _)
  replace hOh := hOh.below hB (Nat.le_refl _)
  clear hB
  go_wp2_with fail
  refine (heldIntS _ _ _ _ _ hOg.reads (by omega) (by omega) (by omega)).mono ?_
  rintro e w' ⟨rfl, rfl⟩
  go_wp2
  go_ret
  exact ⟨rfl, hBt⟩
set_option maxHeartbeats 2000000 in
theorem walkFnExactRingAdd (w : World) (A0 : Option Addr) (z0 : List Int) (c0 : Nat) (hc0 : z0.length ≤ c0 ∧ c0 ≤ maxLen) (hr0 : RI w w.heap.size A0 z0.length z0) (A1 : Option Addr) (z1 : List Int) (c1 : Nat) (hc1 : z1.length ≤ c1 ∧ c1 ≤ maxLen) (hr1 : RI w w.heap.size A1 z1.length z1) :
    Calls Try.prog 10 #[.slice A0 z0.length c0, .slice A1 z1.length c1] w fun e w' => e = .returned (.bool true) ∧ Below w.heap.size w w' := by
  have hcm0 := hc0.2
  unfold maxLen at hcm0
  have hcm1 := hc1.2
  unfold maxLen at hcm1
  by_cases hl0 : 1048576 < z0.length
  · go_enter Try.func10, Try.ntmps10
    go_wp2
    go_ret
    exact ⟨rfl, Below.refl _ _⟩
  have hn0 : z0.length ≤ 1048576 := by omega
  by_cases hl1 : 1048576 < z1.length
  · go_enter Try.func10, Try.ntmps10
    go_wp2
    go_ret
    exact ⟨rfl, Below.refl _ _⟩
  have hn1 : z1.length ≤ 1048576 := by omega
  have hE : eqL (raL z0 z1) (raL z0 z1) = true := eqL_self _
  have hLn : (raL z0 z1).length ≤ 1048576 := Nat.le_trans (ra_len z0 z1) (by omega)
  have HLn := Lib.hid hLn
  clear hLn
  go_enter Try.func10, Try.ntmps10
  have hBt : Below w.heap.size w w := Below.refl _ _
  go_wp2_with fail
  refine (toIntS A0 _ z0 c0 _ (hr0.up (Nat.le_refl _) hBt (Nat.le_refl _)) hn0).mono ?_
  rintro e w1 ⟨As0, ns0, cs0, rfl, hOs0, hB⟩
  have hNs0 : ns0 ≤ 1048576 := by have := OI.len hOs0; omega
  have hs1 : w.heap.size ≤ w1.heap.size := hB.size
  replace hBt := hBt.trans (hB.mono hBt.size)
  clear hB
  have hLs0 := Lib.hid (OI.lt hOs0)
  go_wp2_with fail
  refine (toIntS A1 _ z1 c1 _ (hr1.up (Nat.le_refl _) hBt (Nat.le_refl _)) hn1).mono ?_
  rintro e w2 ⟨As1, ns1, cs1, rfl, hOs1, hB⟩
  have hNs1 : ns1 ≤ 1048576 := by have := OI.len hOs1; omega
  have hs2 : w1.heap.size ≤ w2.heap.size := hB.size
  replace hBt := hBt.trans (hB.mono hBt.size)
  replace hOs0 := hOs0.below hB (Nat.le_refl _)
  clear hB
  have hLs1 := Lib.hid (OI.lt hOs1)
  go_wp2_with fail
  refine (ringAddS _ _ z0 _ _ _ z1 _ _ hOs0.reads hNs0 hOs1.reads hNs1).mono ?_
  rintro e w3 ⟨Aw, nw, cw, rfl, hOw, hB⟩
  have hNw : nw ≤ 1048576 := by have := OI.len hOw; have := HLn.out; omega
  have hs3 : w2.heap.size ≤ w3.heap.size := hB.size
  replace hBt := hBt.trans (hB.mono hBt.size)
  replace hOs0 := hOs0.below hB (Nat.le_refl _)
  replace hOs1 := hOs1.below hB (Nat.le_refl _)
  clear hB
  have hLw := Lib.hid (OI.lt hOw)
  go_wp2_with fail
  refine (toIntS A0 _ z0 c0 _ (hr0.up (Nat.le_refl _) hBt (Nat.le_refl _)) hn0).mono ?_
  rintro e w4 ⟨Ax0, nx0, cx0, rfl, hOx0, hB⟩
  have hNx0 : nx0 ≤ 1048576 := by have := OI.len hOx0; omega
  have hs4 : w3.heap.size ≤ w4.heap.size := hB.size
  replace hBt := hBt.trans (hB.mono hBt.size)
  replace hOs0 := hOs0.below hB (Nat.le_refl _)
  replace hOs1 := hOs1.below hB (Nat.le_refl _)
  replace hOw := hOw.below hB (Nat.le_refl _)
  clear hB
  have hLx0 := Lib.hid (OI.lt hOx0)
  go_wp2_with fail
  refine (toIntS A1 _ z1 c1 _ (hr1.up (Nat.le_refl _) hBt (Nat.le_refl _)) hn1).mono ?_
  rintro e w5 ⟨Ax1, nx1, cx1, rfl, hOx1, hB⟩
  have hNx1 : nx1 ≤ 1048576 := by have := OI.len hOx1; omega
  have hs5 : w4.heap.size ≤ w5.heap.size := hB.size
  replace hBt := hBt.trans (hB.mono hBt.size)
  replace hOs0 := hOs0.below hB (Nat.le_refl _)
  replace hOs1 := hOs1.below hB (Nat.le_refl _)
  replace hOw := hOw.below hB (Nat.le_refl _)
  replace hOx0 := hOx0.below hB (Nat.le_refl _)
  clear hB
  have hLx1 := Lib.hid (OI.lt hOx1)
  go_wp2_with fail
  refine (ringAdd _ _ z0 _ _ _ z1 _ _ hOx0.reads hNx0 hOx1.reads hNx1).mono ?_
  rintro e w6 ⟨Ag, ng, cg, rfl, hOg, hB⟩
  have hNg : ng ≤ 1048576 := by have := OI.len hOg; have := HLn.out; omega
  have hs6 : w5.heap.size ≤ w6.heap.size := hB.size
  replace hBt := hBt.trans (hB.mono hBt.size)
  replace hOs0 := hOs0.below hB (Nat.le_refl _)
  replace hOs1 := hOs1.below hB (Nat.le_refl _)
  replace hOw := hOw.below hB (Nat.le_refl _)
  replace hOx0 := hOx0.below hB (Nat.le_refl _)
  replace hOx1 := hOx1.below hB (Nat.le_refl _)
  clear hB
  have hLg := Lib.hid (OI.lt hOg)
  go_wp2_with fail
  refine (eqIntS' _ _ _ _ _ _ _ _ _ hOg.reads hOw.reads (by omega) (by omega)).mono ?_
  rintro e w7 ⟨rfl, hB⟩
  have hs7 : w6.heap.size ≤ w7.heap.size := hB.size
  replace hBt := hBt.trans (hB.mono hBt.size)
  replace hOs0 := hOs0.below hB (Nat.le_refl _)
  replace hOs1 := hOs1.below hB (Nat.le_refl _)
  replace hOw := hOw.below hB (Nat.le_refl _)
  replace hOx0 := hOx0.below hB (Nat.le_refl _)
  replace hOx1 := hOx1.below hB (Nat.le_refl _)
  replace hOg := hOg.below hB (Nat.le_refl _)
  clear hB
  go_wp2_with fail
  refine (toIntS A0 _ z0 c0 _ (hr0.up (Nat.le_refl _) hBt (Nat.le_refl _)) hn0).mono ?_
  rintro e w8 ⟨Ay0, ny0, cy0, rfl, hOy0, hB⟩
  have hNy0 : ny0 ≤ 1048576 := by have := OI.len hOy0; omega
  have hs8 : w7.heap.size ≤ w8.heap.size := hB.size
  replace hBt := hBt.trans (hB.mono hBt.size)
  replace hOs0 := hOs0.below hB (Nat.le_refl _)
  replace hOs1 := hOs1.below hB (Nat.le_refl _)
  replace hOw := hOw.below hB (Nat.le_refl _)
  replace hOx0 := hOx0.below hB (Nat.le_refl _)
  replace hOx1 := hOx1.below hB (Nat.le_refl _)
  replace hOg := hOg.below hB (Nat.le_refl _)
  clear hB
  have hLy0 := Lib.hid (OI.lt hOy0)
  have hE0 : eqL z0 z0 = true := eqL_self _
  go_wp2_with fail
  refine (eqIntS' _ _ _ _ _ _ _ _ _ hOx0.reads hOy0.reads (by omega) (by omega)).mono ?_
  rintro e w9 ⟨rfl, hB⟩
  have hs9 : w8.heap.size ≤ w9.heap.size := hB.size
  replace hBt := hBt.trans (hB.mono hBt.size)
  replace hOs0 := hOs0.below hB (Nat.le_refl _)
  replace hOs1 := hOs1.below hB (Nat.le_refl _)
  replace hOw := hOw.below hB (Nat.le_refl _)
  replace hOx0 := hOx0.below hB (Nat.le_refl _)
  replace hOx1 := hOx1.below hB (Nat.le_refl _)
  replace hOg := hOg.below hB (Nat.le_refl _)
  replace hOy0 := hOy0.below hB (Nat.le_refl _)
  clear hB
  go_wp2_with fail
  refine (toIntS A1 _ z1 c1 _ (hr1.up (Nat.le_refl _) hBt (Nat.le_refl _)) hn1).mono ?_
  rintro e w10 ⟨Ay1, ny1, cy1, rfl, hOy1, hB⟩
  have hNy1 : ny1 ≤ 1048576 := by have := OI.len hOy1; omega
  have hs10 : w9.heap.size ≤ w10.heap.size := hB.size
  replace hBt := hBt.trans (hB.mono hBt.size)
  replace hOs0 := hOs0.below hB (Nat.le_refl _)
  replace hOs1 := hOs1.below hB (Nat.le_refl _)
  replace hOw := hOw.below hB (Nat.le_refl _)
  replace hOx0 := hOx0.below hB (Nat.le_refl _)
  replace hOx1 := hOx1.below hB (Nat.le_refl _)
  replace hOg := hOg.below hB (Nat.le_refl _)
  replace hOy0 := hOy0.below hB (Nat.le_refl _)
  clear hB
  have hLy1 := Lib.hid (OI.lt hOy1)
  have hE1 : eqL z1 z1 = true := eqL_self _
  go_wp2_with fail
  refine (eqIntS' _ _ _ _ _ _ _ _ _ hOx1.reads hOy1.reads (by omega) (by omega)).mono ?_
  rintro e w11 ⟨rfl, hB⟩
  have hs11 : w10.heap.size ≤ w11.heap.size := hB.size
  replace hBt := hBt.trans (hB.mono hBt.size)
  replace hOs0 := hOs0.below hB (Nat.le_refl _)
  replace hOs1 := hOs1.below hB (Nat.le_refl _)
  replace hOw := hOw.below hB (Nat.le_refl _)
  replace hOx0 := hOx0.below hB (Nat.le_refl _)
  replace hOx1 := hOx1.below hB (Nat.le_refl _)
  replace hOg := hOg.below hB (Nat.le_refl _)
  replace hOy0 := hOy0.below hB (Nat.le_refl _)
  replace hOy1 := hOy1.below hB (Nat.le_refl _)
  clear hB
  go_wp2_with fail
  refine (markIntS _ _ _ _ _ _ _ hOx0 (by omega) (by omega) (by omega)).mono ?_
  rintro e w12 ⟨rfl, hO', hG⟩
  clear hOx0
  have hOx0 := hO'
  clear hO'
  have hs12 : w11.heap.size ≤ w12.heap.size := hG.size
  replace hBt := hBt.grown hG hBt.size (fun k hk => by have := (hLx0.out k hk).1; omega)
  replace hOs0 := hOs0.sepV hG (fun j k hj hk => by have := hLs0.out j hj; have := hLx0.out k hk; omega)
  replace hOs1 := hOs1.sepV hG (fun j k hj hk => by have := hLs1.out j hj; have := hLx0.out k hk; omega)
  replace hOw := hOw.sepV hG (fun j k hj hk => by have := hLw.out j hj; have := hLx0.out k hk; omega)
  replace hOx1 := hOx1.sepV hG (fun j k hj hk => by have := hLx1.out j hj; have := hLx0.out k hk; omega)
  replace hOg := hOg.sepV hG (fun j k hj hk => by have := hLg.out j hj; have := hLx0.out k hk; omega)
  replace hOy0 := hOy0.sepV hG (fun j k hj hk => by have := hLy0.out j hj; have := hLx0.out k hk; omega)
  replace hOy1 := hOy1.sepV hG (fun j k hj hk => by have := hLy1.out j hj; have := hLx0.out k hk; omega)
  clear hG
  go_wp2_with fail
  refine (markIntS _ _ _ _ _ _ _ hOx1 (by omega) (by omega) (by omega)).mono ?_
  rintro e w13 ⟨rfl, hO', hG⟩
  clear hOx1
  have hOx1 := hO'
  clear hO'
  have hs13 : w12.heap.size ≤ w13.heap.size := hG.size
  replace hBt := hBt.grown hG hBt.size (fun k hk => by have := (hLx1.out k hk).1; omega)
  replace hOs0 := hOs0.sepV hG (fun j k hj hk => by have := hLs0.out j hj; have := hLx1.out k hk; omega)
  replace hOs1 := hOs1.sepV hG (fun j k hj hk => by have := hLs1.out j hj; have := hLx1.out k hk; omega)
  replace hOw := hOw.sepV hG (fun j k hj hk => by have := hLw.out j hj; have := hLx1.out k hk; omega)
  replace hOx0 := hOx0.sepV hG (fun j k hj hk => by have := hLx0.out j hj; have := hLx1.out k hk; omega)
  replace hOg := hOg.sepV hG (fun j k hj hk => by have := hLg.out j hj; have := hLx1.out k hk; omega)
  replace hOy0 := hOy0.sepV hG (fun j k hj hk => by have := hLy0.out j hj; have := hLx1.out k hk; omega)
  replace hOy1 := hOy1.sepV hG (fun j k hj hk => by have := hLy1.out j hj; have := hLx1.out k hk; omega)
  clear hG
  go_wp2_with fail
  refine (eqIntS' _ _ _ _ _ _ _ _ _ hOg.reads hOw.reads (by omega) (by omega)).mono ?_
  rintro e w14 ⟨rfl, hB⟩
  have hs14 : w13.heap.size ≤ w14.heap.size := hB.size
  replace hBt := hBt.trans (hB.mono hBt.size)
  replace hOs0 := hOs0.below hB (Nat.le_refl _)
  replace hOs1 := hOs1.below hB (Nat.le_refl _)
  replace hOw := hOw.below hB (Nat.le_refl _)
  replace hOx0 := hOx0.below hB (Nat.le_refl _)
  replace hOx1 := hOx1.below hB (Nat.le_refl _)
  replace hOg := hOg.below hB (Nat.le_refl _)
  replace hOy0 := hOy0.below hB (Nat.le_refl _)
  replace hOy1 := hOy1.below hB (Nat.le_refl _)
  clear hB
  go_wp2_with fail
  refine (markIntS _ _ _ _ _ _ _ hOg (by omega) (by omega) (by omega)).mono ?_
  rintro e w15 ⟨rfl, hO', hG⟩
  clear hOg
  have hOg := hO'
  clear hO'
  have hs15 : w14.heap.size ≤ w15.heap.size := hG.size
  replace hBt := hBt.grown hG hBt.size (fun k hk => by have := (hLg.out k hk).1; omega)
  replace hOs0 := hOs0.sepV hG (fun j k hj hk => by have := hLs0.out j hj; have := hLg.out k hk; omega)
  replace hOs1 := hOs1.sepV hG (fun j k hj hk => by have := hLs1.out j hj; have := hLg.out k hk; omega)
  replace hOw := hOw.sepV hG (fun j k hj hk => by have := hLw.out j hj; have := hLg.out k hk; omega)
  replace hOx0 := hOx0.sepV hG (fun j k hj hk => by have := hLx0.out j hj; have := hLg.out k hk; omega)
  replace hOx1 := hOx1.sepV hG (fun j k hj hk => by have := hLx1.out j hj; have := hLg.out k hk; omega)
  replace hOy0 := hOy0.sepV hG (fun j k hj hk => by have := hLy0.out j hj; have := hLg.out k hk; omega)
  replace hOy1 := hOy1.sepV hG (fun j k hj hk => by have := hLy1.out j hj; have := hLg.out k hk; omega)
  clear hG
  go_wp2_with fail
  refine (heldIntS _ _ _ _ _ hOg.reads (by omega) (by omega) (by omega)).mono ?_
  rintro e w' ⟨rfl, rfl⟩
  go_wp2_with fail
  refine (toIntS A0 _ z0 c0 _ (hr0.up (Nat.le_refl _) hBt (Nat.le_refl _)) hn0).mono ?_
  rintro e w16 ⟨Ah0, nh0, ch0, rfl, hOh0, hB⟩
  have hNh0 : nh0 ≤ 1048576 := by have := OI.len hOh0; omega
  have hs16 : w15.heap.size ≤ w16.heap.size := hB.size
  replace hBt := hBt.trans (hB.mono hBt.size)
  replace hOs0 := hOs0.below hB (Nat.le_refl _)
  replace hOs1 := hOs1.below hB (Nat.le_refl _)
  replace hOw := hOw.below hB (Nat.le_refl _)
  replace hOx0 := hOx0.below hB (Nat.le_refl _)
  replace hOx1 := hOx1.below hB (Nat.le_refl _)
  replace hOg := hOg.below hB (Nat.le_refl _)
  replace hOy0 := hOy0.below hB (Nat.le_refl _)
  replace hOy1 := hOy1.below hB (Nat.le_refl _)
  clear hB
  have hLh0 := Lib.hid (OI.lt hOh0)
  go_wp2_with fail
  refine (toIntS A1 _ z1 c1 _ (hr1.up (Nat.le_refl _) hBt (Nat.le_refl _)) hn1).mono ?_
  rintro e w17 ⟨Ah1, nh1, ch1, rfl, hOh1, hB⟩
  have hNh1 : nh1 ≤ 1048576 := by have := OI.len hOh1; omega
  have hs17 : w16.heap.size ≤ w17.heap.size := hB.size
  replace hBt := hBt.trans (hB.mono hBt.size)
  replace hOs0 := hOs0.below hB (Nat.le_refl _)
  replace hOs1 := hOs1.below hB (Nat.le_refl _)
  replace hOw := hOw.below hB (Nat.le_refl _)
  replace hOx0 := hOx0.below hB (Nat.le_refl _)
  replace hOx1 := hOx1.below hB (Nat.le_refl _)
  replace hOg := hOg.below hB (Nat.le_refl _)
  replace hOy0 := hOy0.below hB (Nat.le_refl _)
  replace hOy1 := hOy1.below hB (Nat.le_refl _)
  replace hOh0 := hOh0.below hB (Nat.le_refl _)
  clear hB
  have hLh1 := Lib.hid (OI.lt hOh1)
  go_wp2_with fail
  refine (ringAdd _ _ z0 _ _ _ z1 _ _ hOh0.reads hNh0 hOh1.reads hNh1).mono ?_
  rintro e w18 ⟨Ah, nh, ch, rfl, hOh, hB⟩
  have hNh : nh ≤ 1048576 := by have := OI.len hOh; have := HLn.out; omega
  have hs18 : w17.heap.size ≤ w18.heap.size := hB.size
  replace hBt := hBt.trans (hB.mono hBt.size)
  replace hOs0 := hOs0.below hB (Nat.le_refl _)
  replace hOs1 := hOs1.below hB (Nat.le_refl _)
  replace hOw := hOw.below hB (Nat.le_refl _)
  replace hOx0 := hOx0.below hB (Nat.le_refl _)
  replace hOx1 := hOx1.below hB (Nat.le_refl _)
  replace hOg := hOg.below hB (Nat.le_refl _)
  replace hOy0 := hOy0.below hB (Nat.le_refl _)
  replace hOy1 := hOy1.below hB (Nat.le_refl _)
  replace hOh0 := hOh0.below hB (Nat.le_refl _)
  replace hOh1 := hOh1.below hB (Nat.le_refl _)
  clear hB
  have hLh := Lib.hid (OI.lt hOh)
  go_wp2_with fail
  refine (eqIntS' _ _ _ _ _ _ _ _ _ hOh.reads hOw.reads (by omega) (by omega)).mono ?_
  rintro e w19 ⟨rfl, hB⟩
  have hs19 : w18.heap.size ≤ w19.heap.size := hB.size
  replace hBt := hBt.trans (hB.mono hBt.size)
  replace hOs0 := hOs0.below hB (Nat.le_refl _)
  replace hOs1 := hOs1.below hB (Nat.le_refl _)
  replace hOw := hOw.below hB (Nat.le_refl _)
  replace hOx0 := hOx0.below hB (Nat.le_refl _)
  replace hOx1 := hOx1.below hB (Nat.le_refl _)
  replace hOg := hOg.below hB (Nat.le_refl _)
  replace hOy0 := hOy0.below hB (Nat.le_refl _)
  replace hOy1 := hOy1.below hB (Nat.le_refl _)
  replace hOh0 := hOh0.below hB (Nat.le_refl _)
  replace hOh1 := hOh1.below hB (Nat.le_refl _)
  replace hOh := hOh.below hB (Nat.le_refl _)
  clear hB
  go_wp2_with fail
  refine (heldIntS _ _ _ _ _ hOg.reads (by omega) (by omega) (by omega)).mono ?_
  rintro e w' ⟨rfl, rfl⟩
  go_wp2
  go_ret
  exact ⟨rfl, hBt⟩
set_option maxHeartbeats 2000000 in
theorem walkFnExactRingShift (w : World) (A0 : Option Addr) (z0 : List Int) (c0 : Nat) (hc0 : z0.length ≤ c0 ∧ c0 ≤ maxLen) (hr0 : RI w w.heap.size A0 z0.length z0) (a1 : Int) (_w1 : (Lit.int .i64 a1).wf = true) :
    Calls Try.prog 9 #[.slice A0 z0.length c0, .int .i64 a1] w fun e w' => e = .returned (.bool true) ∧ Below w.heap.size w w' := by
  have hcm0 := hc0.2
  unfold maxLen at hcm0
  by_cases hl0 : 1048576 < z0.length
  · go_enter Try.func9, Try.ntmps9
    go_wp2
    go_ret
    exact ⟨rfl, Below.refl _ _⟩
  have hn0 : z0.length ≤ 1048576 := by omega
  clear _w1
  have hE : eqL (shL z0 a1) (shL z0 a1) = true := eqL_self _
  have hLn : (shL z0 a1).length ≤ 1048576 := Nat.le_trans (sh_len z0 a1) (by omega)
  have HLn := Lib.hid hLn
  clear hLn
  go_enter Try.func9, Try.ntmps9
  have hBt : Below w.heap.size w w := Below.refl _ _
  go_wp2_with fail
  refine (toIntS A0 _ z0 c0 _ (hr0.up (Nat.le_refl _) hBt (Nat.le_refl _)) hn0).mono ?_
  rintro e w1 ⟨As0, ns0, cs0, rfl, hOs0, hB⟩
  have hNs0 : ns0 ≤ 1048576 := by have := OI.len hOs0; omega
  have hs1 : w.heap.size ≤ w1.heap.size := hB.size
  replace hBt := hBt.trans (hB.mono hBt.size)
  clear hB
  have hLs0 := Lib.hid (OI.lt hOs0)
  go_wp2_with fail
  refine (ringShiftS _ _ z0 _ a1 _ hOs0.reads hNs0).mono ?_
  rintro e w2 ⟨Aw, nw, cw, rfl, hOw, hB⟩
  have hNw : nw ≤ 1048576 := by have := OI.len hOw; have := HLn.out; omega
  have hs2 : w1.heap.size ≤ w2.heap.size := hB.size
  replace hBt := hBt.trans (hB.mono hBt.size)
  replace hOs0 := hOs0.below hB (Nat.le_refl _)
  clear hB
  have hLw := Lib.hid (OI.lt hOw)
  go_wp2_with fail
  refine (toIntS A0 _ z0 c0 _ (hr0.up (Nat.le_refl _) hBt (Nat.le_refl _)) hn0).mono ?_
  rintro e w3 ⟨Ax0, nx0, cx0, rfl, hOx0, hB⟩
  have hNx0 : nx0 ≤ 1048576 := by have := OI.len hOx0; omega
  have hs3 : w2.heap.size ≤ w3.heap.size := hB.size
  replace hBt := hBt.trans (hB.mono hBt.size)
  replace hOs0 := hOs0.below hB (Nat.le_refl _)
  replace hOw := hOw.below hB (Nat.le_refl _)
  clear hB
  have hLx0 := Lib.hid (OI.lt hOx0)
  go_wp2_with fail
  refine (ringShift _ _ z0 _ a1 _ hOx0.reads hNx0).mono ?_
  rintro e w4 ⟨Ag, ng, cg, rfl, hOg, hB⟩
  have hNg : ng ≤ 1048576 := by have := OI.len hOg; have := HLn.out; omega
  have hs4 : w3.heap.size ≤ w4.heap.size := hB.size
  replace hBt := hBt.trans (hB.mono hBt.size)
  replace hOs0 := hOs0.below hB (Nat.le_refl _)
  replace hOw := hOw.below hB (Nat.le_refl _)
  replace hOx0 := hOx0.below hB (Nat.le_refl _)
  clear hB
  have hLg := Lib.hid (OI.lt hOg)
  go_wp2_with fail
  refine (eqIntS' _ _ _ _ _ _ _ _ _ hOg.reads hOw.reads (by omega) (by omega)).mono ?_
  rintro e w5 ⟨rfl, hB⟩
  have hs5 : w4.heap.size ≤ w5.heap.size := hB.size
  replace hBt := hBt.trans (hB.mono hBt.size)
  replace hOs0 := hOs0.below hB (Nat.le_refl _)
  replace hOw := hOw.below hB (Nat.le_refl _)
  replace hOx0 := hOx0.below hB (Nat.le_refl _)
  replace hOg := hOg.below hB (Nat.le_refl _)
  clear hB
  go_wp2_with fail
  refine (toIntS A0 _ z0 c0 _ (hr0.up (Nat.le_refl _) hBt (Nat.le_refl _)) hn0).mono ?_
  rintro e w6 ⟨Ay0, ny0, cy0, rfl, hOy0, hB⟩
  have hNy0 : ny0 ≤ 1048576 := by have := OI.len hOy0; omega
  have hs6 : w5.heap.size ≤ w6.heap.size := hB.size
  replace hBt := hBt.trans (hB.mono hBt.size)
  replace hOs0 := hOs0.below hB (Nat.le_refl _)
  replace hOw := hOw.below hB (Nat.le_refl _)
  replace hOx0 := hOx0.below hB (Nat.le_refl _)
  replace hOg := hOg.below hB (Nat.le_refl _)
  clear hB
  have hLy0 := Lib.hid (OI.lt hOy0)
  have hE0 : eqL z0 z0 = true := eqL_self _
  go_wp2_with fail
  refine (eqIntS' _ _ _ _ _ _ _ _ _ hOx0.reads hOy0.reads (by omega) (by omega)).mono ?_
  rintro e w7 ⟨rfl, hB⟩
  have hs7 : w6.heap.size ≤ w7.heap.size := hB.size
  replace hBt := hBt.trans (hB.mono hBt.size)
  replace hOs0 := hOs0.below hB (Nat.le_refl _)
  replace hOw := hOw.below hB (Nat.le_refl _)
  replace hOx0 := hOx0.below hB (Nat.le_refl _)
  replace hOg := hOg.below hB (Nat.le_refl _)
  replace hOy0 := hOy0.below hB (Nat.le_refl _)
  clear hB
  go_wp2_with fail
  refine (markIntS _ _ _ _ _ _ _ hOx0 (by omega) (by omega) (by omega)).mono ?_
  rintro e w8 ⟨rfl, hO', hG⟩
  clear hOx0
  have hOx0 := hO'
  clear hO'
  have hs8 : w7.heap.size ≤ w8.heap.size := hG.size
  replace hBt := hBt.grown hG hBt.size (fun k hk => by have := (hLx0.out k hk).1; omega)
  replace hOs0 := hOs0.sepV hG (fun j k hj hk => by have := hLs0.out j hj; have := hLx0.out k hk; omega)
  replace hOw := hOw.sepV hG (fun j k hj hk => by have := hLw.out j hj; have := hLx0.out k hk; omega)
  replace hOg := hOg.sepV hG (fun j k hj hk => by have := hLg.out j hj; have := hLx0.out k hk; omega)
  replace hOy0 := hOy0.sepV hG (fun j k hj hk => by have := hLy0.out j hj; have := hLx0.out k hk; omega)
  clear hG
  go_wp2_with fail
  refine (eqIntS' _ _ _ _ _ _ _ _ _ hOg.reads hOw.reads (by omega) (by omega)).mono ?_
  rintro e w9 ⟨rfl, hB⟩
  have hs9 : w8.heap.size ≤ w9.heap.size := hB.size
  replace hBt := hBt.trans (hB.mono hBt.size)
  replace hOs0 := hOs0.below hB (Nat.le_refl _)
  replace hOw := hOw.below hB (Nat.le_refl _)
  replace hOx0 := hOx0.below hB (Nat.le_refl _)
  replace hOg := hOg.below hB (Nat.le_refl _)
  replace hOy0 := hOy0.below hB (Nat.le_refl _)
  clear hB
  go_wp2_with fail
  refine (markIntS _ _ _ _ _ _ _ hOg (by omega) (by omega) (by omega)).mono ?_
  rintro e w10 ⟨rfl, hO', hG⟩
  clear hOg
  have hOg := hO'
  clear hO'
  have hs10 : w9.heap.size ≤ w10.heap.size := hG.size
  replace hBt := hBt.grown hG hBt.size (fun k hk => by have := (hLg.out k hk).1; omega)
  replace hOs0 := hOs0.sepV hG (fun j k hj hk => by have := hLs0.out j hj; have := hLg.out k hk; omega)
  replace hOw := hOw.sepV hG (fun j k hj hk => by have := hLw.out j hj; have := hLg.out k hk; omega)
  replace hOx0 := hOx0.sepV hG (fun j k hj hk => by have := hLx0.out j hj; have := hLg.out k hk; omega)
  replace hOy0 := hOy0.sepV hG (fun j k hj hk => by have := hLy0.out j hj; have := hLg.out k hk; omega)
  clear hG
  go_wp2_with fail
  refine (heldIntS _ _ _ _ _ hOg.reads (by omega) (by omega) (by omega)).mono ?_
  rintro e w' ⟨rfl, rfl⟩
  go_wp2_with fail
  refine (toIntS A0 _ z0 c0 _ (hr0.up (Nat.le_refl _) hBt (Nat.le_refl _)) hn0).mono ?_
  rintro e w11 ⟨Ah0, nh0, ch0, rfl, hOh0, hB⟩
  have hNh0 : nh0 ≤ 1048576 := by have := OI.len hOh0; omega
  have hs11 : w10.heap.size ≤ w11.heap.size := hB.size
  replace hBt := hBt.trans (hB.mono hBt.size)
  replace hOs0 := hOs0.below hB (Nat.le_refl _)
  replace hOw := hOw.below hB (Nat.le_refl _)
  replace hOx0 := hOx0.below hB (Nat.le_refl _)
  replace hOg := hOg.below hB (Nat.le_refl _)
  replace hOy0 := hOy0.below hB (Nat.le_refl _)
  clear hB
  have hLh0 := Lib.hid (OI.lt hOh0)
  go_wp2_with fail
  refine (ringShift _ _ z0 _ a1 _ hOh0.reads hNh0).mono ?_
  rintro e w12 ⟨Ah, nh, ch, rfl, hOh, hB⟩
  have hNh : nh ≤ 1048576 := by have := OI.len hOh; have := HLn.out; omega
  have hs12 : w11.heap.size ≤ w12.heap.size := hB.size
  replace hBt := hBt.trans (hB.mono hBt.size)
  replace hOs0 := hOs0.below hB (Nat.le_refl _)
  replace hOw := hOw.below hB (Nat.le_refl _)
  replace hOx0 := hOx0.below hB (Nat.le_refl _)
  replace hOg := hOg.below hB (Nat.le_refl _)
  replace hOy0 := hOy0.below hB (Nat.le_refl _)
  replace hOh0 := hOh0.below hB (Nat.le_refl _)
  clear hB
  have hLh := Lib.hid (OI.lt hOh)
  go_wp2_with fail
  refine (eqIntS' _ _ _ _ _ _ _ _ _ hOh.reads hOw.reads (by omega) (by omega)).mono ?_
  rintro e w13 ⟨rfl, hB⟩
  have hs13 : w12.heap.size ≤ w13.heap.size := hB.size
  replace hBt := hBt.trans (hB.mono hBt.size)
  replace hOs0 := hOs0.below hB (Nat.le_refl _)
  replace hOw := hOw.below hB (Nat.le_refl _)
  replace hOx0 := hOx0.below hB (Nat.le_refl _)
  replace hOg := hOg.below hB (Nat.le_refl _)
  replace hOy0 := hOy0.below hB (Nat.le_refl _)
  replace hOh0 := hOh0.below hB (Nat.le_refl _)
  replace hOh := hOh.below hB (Nat.le_refl _)
  clear hB
  go_wp2_with fail
  refine (heldIntS _ _ _ _ _ hOg.reads (by omega) (by omega) (by omega)).mono ?_
  rintro e w' ⟨rfl, rfl⟩
  go_wp2
  go_ret
  exact ⟨rfl, hBt⟩
end Go.Proofs.Ytfdgoddcpfgfjaa
