/- The walks of exact laws on rules and the test of rings. -/
import Derived.Test.YtfdgoddcpfgfjaaRing
import Derived.Test.YtfdgoddcpfgfjaaInts
namespace Go.Proofs.Ytfdgoddcpfgfjaa
open Go.RowKit
set_option linter.unusedVariables false

theorem walkFnExactRuleBit (w : World) (a0 : Int) (_w0 : (Lit.int .i64 a0).wf = true) (a1 : Int) (_w1 : (Lit.int .i64 a1).wf = true) (a2 : Int) (_w2 : (Lit.int .i64 a2).wf = true) (a3 : Int) (_w3 : (Lit.int .i64 a3).wf = true) :
    Calls Try.prog 3 #[.int .i64 a0, .int .i64 a1, .int .i64 a2, .int .i64 a3] w fun e w' => e = .returned (.bool true) ∧ Below w.heap.size w w' := by
  clear _w0 _w1 _w2 _w3
  go_enter Try.func3, Try.ntmps3
  go_wp2_with (first | (go_at_call 16; refine (ruleBit _ _ _ _ _).mono ?_; rintro e w' ⟨rfl, rfl⟩) | (go_at_call 15; refine (ruleBitS _ _ _ _ _).mono ?_; rintro e w' ⟨rfl, rfl⟩))
  go_ret
  exact ⟨rfl, Below.refl _ _⟩
theorem walkFnExactRuleFlip (w : World) (a0 : Int) (_w0 : (Lit.int .i64 a0).wf = true) :
    Calls Try.prog 5 #[.int .i64 a0] w fun e w' => e = .returned (.bool true) ∧ Below w.heap.size w w' := by
  clear _w0
  go_enter Try.func5, Try.ntmps5
  go_wp2_with (first | (go_at_call 20; refine (ruleFlip _ _).mono ?_; rintro e w' ⟨rfl, rfl⟩) | (go_at_call 19; refine (ruleFlipS _ _).mono ?_; rintro e w' ⟨rfl, rfl⟩))
  go_ret
  exact ⟨rfl, Below.refl _ _⟩
def BoolPost (w : World) (b : Bool) (e : Ending) (w' : World) : Prop := e = .returned (.bool b) ∧ Below w.heap.size w w'
theorem ringValid' (A : Option Addr) (n : Nat) (zs : List Int) (c : Nat) (w : World) (hr : RI w w.heap.size A n zs) (hl : n ≤ 1048576) :
    Calls Try.prog 23 #[.slice A n c] w (BoolPost w (rvB zs)) := (ringValid A n zs c w hr (by omega)).mono fun _ _ ⟨he, hw⟩ => ⟨he, hw ▸ Below.refl _ _⟩
theorem ringValidS' (A : Option Addr) (n : Nat) (zs : List Int) (c : Nat) (w : World) (hr : RI w w.heap.size A n zs) (hl : n ≤ 1048576) :
    Calls Try.prog 21 #[.slice A n c] w (BoolPost w (rvB zs)) := (ringValidS A n zs c w hr (by omega)).mono fun _ _ ⟨he, hw⟩ => ⟨he, hw ▸ Below.refl _ _⟩
set_option maxHeartbeats 2000000 in
theorem walkFnExactRingValid (w : World) (A0 : Option Addr) (z0 : List Int) (c0 : Nat) (hc0 : z0.length ≤ c0 ∧ c0 ≤ maxLen) (hr0 : RI w w.heap.size A0 z0.length z0) :
    Calls Try.prog 6 #[.slice A0 z0.length c0] w fun e w' => e = .returned (.bool true) ∧ Below w.heap.size w w' := by
  have hcm0 := hc0.2
  unfold maxLen at hcm0
  by_cases hl0 : 1048576 < z0.length
  · go_enter Try.func6, Try.ntmps6
    go_wp2
    go_ret
    exact ⟨rfl, Below.refl _ _⟩
  have hn0 : z0.length ≤ 1048576 := by omega
  go_enter Try.func6, Try.ntmps6
  have hBt : Below w.heap.size w w := Below.refl _ _
  go_wp2_with fail
  refine (toIntS A0 _ z0 c0 _ (hr0.up (Nat.le_refl _) hBt (Nat.le_refl _)) hn0).mono ?_
  rintro e w1 ⟨As0, ns0, cs0, rfl, hOs0, hB⟩
  have hNs0 : ns0 ≤ 1048576 := by have := OI.len hOs0; omega
  have hs1 : w.heap.size ≤ w1.heap.size := hB.size
  replace hBt := hBt.trans (hB.mono hBt.size)
  clear hB
  have hLs0 := Lib.hid (OI.lt hOs0)
  go_wp2_with fail
  refine (ringValidS' _ _ z0 _ _ hOs0.reads hNs0).mono ?_
  rintro e w2 ⟨rfl, hB⟩
  have hs2 : w1.heap.size ≤ w2.heap.size := hB.size
  replace hBt := hBt.trans (hB.mono hBt.size)
  replace hOs0 := hOs0.below hB (Nat.le_refl _)
  clear hB
  go_wp2_with fail
  refine (toIntS A0 _ z0 c0 _ (hr0.up (Nat.le_refl _) hBt (Nat.le_refl _)) hn0).mono ?_
  rintro e w3 ⟨Ax0, nx0, cx0, rfl, hOx0, hB⟩
  have hNx0 : nx0 ≤ 1048576 := by have := OI.len hOx0; omega
  have hs3 : w2.heap.size ≤ w3.heap.size := hB.size
  replace hBt := hBt.trans (hB.mono hBt.size)
  replace hOs0 := hOs0.below hB (Nat.le_refl _)
  clear hB
  have hLx0 := Lib.hid (OI.lt hOx0)
  go_wp2_with fail
  refine (ringValid' _ _ z0 _ _ hOx0.reads hNx0).mono ?_
  rintro e w4 ⟨rfl, hB⟩
  have hs4 : w3.heap.size ≤ w4.heap.size := hB.size
  replace hBt := hBt.trans (hB.mono hBt.size)
  replace hOs0 := hOs0.below hB (Nat.le_refl _)
  replace hOx0 := hOx0.below hB (Nat.le_refl _)
  clear hB
  go_wp2_with fail
  refine (toIntS A0 _ z0 c0 _ (hr0.up (Nat.le_refl _) hBt (Nat.le_refl _)) hn0).mono ?_
  rintro e w5 ⟨Ay0, ny0, cy0, rfl, hOy0, hB⟩
  have hNy0 : ny0 ≤ 1048576 := by have := OI.len hOy0; omega
  have hs5 : w4.heap.size ≤ w5.heap.size := hB.size
  replace hBt := hBt.trans (hB.mono hBt.size)
  replace hOs0 := hOs0.below hB (Nat.le_refl _)
  replace hOx0 := hOx0.below hB (Nat.le_refl _)
  clear hB
  have hLy0 := Lib.hid (OI.lt hOy0)
  have hE0 : eqL z0 z0 = true := eqL_self _
  go_wp2_with fail
  refine (eqIntS' _ _ _ _ _ _ _ _ _ hOx0.reads hOy0.reads (by omega) (by omega)).mono ?_
  rintro e w6 ⟨rfl, hB⟩
  have hs6 : w5.heap.size ≤ w6.heap.size := hB.size
  replace hBt := hBt.trans (hB.mono hBt.size)
  replace hOs0 := hOs0.below hB (Nat.le_refl _)
  replace hOx0 := hOx0.below hB (Nat.le_refl _)
  replace hOy0 := hOy0.below hB (Nat.le_refl _)
  clear hB
  go_wp2
  go_ret
  exact ⟨rfl, hBt⟩
end Go.Proofs.Ytfdgoddcpfgfjaa
