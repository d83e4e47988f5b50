/- The walk of the exact law FnExactCleanGates. -/
import Derived.Test.YtkpjlkahebeljaaStepsB
import Derived.Test.YtkpjlkahebeljaaCleanI
namespace Go.Proofs.Ytkpjlkahebeljaa
open Go.RowKit
set_option linter.unusedVariables false

set_option maxHeartbeats 8000000 in
theorem walkFnExactCleanGates (w : World) (a0 : Int) (_w0 : (Lit.int .i64 a0).wf = true) (A : Option Addr) (n : Nat) (zs : List Int) (c : Nat) (hc : n ≤ c ∧ c ≤ maxLen) (hr : RI w w.heap.size A (n * 3) zs) :
    Calls Try.prog 4 #[.int .i64 a0, .slice A n c] w fun e w' => e = .returned (.bool true) ∧ Below w.heap.size w w' := by
  clear _w0
  have hT : Below w.heap.size w w := Below.refl _ _
  have hzl := Lib.hid hr.len
  have HR := Lib.hid hr
  clear hr
  obtain ⟨M, hM⟩ : ∃ M, clN a0 n zs = M := ⟨_, rfl⟩
  have hM20 : M ≤ 20 := by have := clN_le a0 n zs; omega
  obtain ⟨ys, hys⟩ : ∃ ys, clL a0 n zs = ys := ⟨_, rfl⟩
  have HCS := Lib.hid (fun A c w hr hl => cleanGatesS a0 A n zs c w hr hl)
  have HCI := Lib.hid (fun A c w hr hl => cleanGatesI a0 A n zs c w hr hl)
  rw [hM, hys] at HCS HCI
  clear hM hys
  go_enter Try.func4, Try.ntmps4
  go_wp2_with fail
  refine (szStepS A n c _ hc).mono ?_
  rintro e w' ⟨rfl, rfl⟩
  by_cases hl : (1048576 : Int) < (n : Int)
  · rw [if_pos hl]
    go_wp2
    go_ret
    exact ⟨rfl, hT⟩
  rw [if_neg hl]
  have hn : n ≤ 1048576 := by omega
  have hnl : ¬ (1048576 - (n : Int) : Int) < 0 := by omega
  clear hl
  go_wp2_with fail
  refine (toStepS A n zs c _ (HR.out.up (Nat.le_refl _) hT (Nat.le_refl _)) hn).mono ?_
  rintro e w1 ⟨At, nt, ct, rfl, hO, hB⟩
  have hs1 : w.heap.size ≤ w1.heap.size := hB.size
  replace hT := hT.trans (hB.mono hT.size)
  clear hB
  obtain rfl : n = nt := by have h1 := hO.len; have h2 := hzl.out; omega
  have hLt := Lib.hid hO.lt
  have HOt := Lib.hid hO
  clear hO
  go_wp2_with fail
  refine (HCS.out At ct _ HOt.out.reads (by omega)).mono ?_
  rintro e w2 ⟨Aw, cw, rfl, hO, hB⟩
  have hs2 : w1.heap.size ≤ w2.heap.size := hB.size
  replace HOt := Lib.hid (HOt.out.below hB (Nat.le_refl _))
  replace hT := hT.trans (hB.mono hT.size)
  clear hB
  have hLw := Lib.hid hO.lt
  have HOw := Lib.hid hO
  clear hO
  go_wp2_with fail
  refine (toStepS A n zs c _ (HR.out.up (Nat.le_refl _) hT (Nat.le_refl _)) hn).mono ?_
  rintro e w3 ⟨Ax, nx, cx, rfl, hO, hB⟩
  have hs3 : w2.heap.size ≤ w3.heap.size := hB.size
  replace HOw := Lib.hid (HOw.out.below hB (Nat.le_refl _))
  replace hT := hT.trans (hB.mono hT.size)
  clear hB
  obtain rfl : n = nx := by have h1 := hO.len; have h2 := hzl.out; omega
  have hLx := Lib.hid hO.lt
  have HOx := Lib.hid hO
  clear hO
  go_wp2_with fail
  refine (HCI.out Ax cx _ HOx.out.reads (by omega)).mono ?_
  rintro e w4 ⟨Ag, cg, rfl, hO, hB⟩
  have hs4 : w3.heap.size ≤ w4.heap.size := hB.size
  replace HOw := Lib.hid (HOw.out.below hB (Nat.le_refl _))
  replace HOx := Lib.hid (HOx.out.below hB (Nat.le_refl _))
  replace hT := hT.trans (hB.mono hT.size)
  clear hB
  have hLg := Lib.hid hO.lt
  have HOg := Lib.hid hO
  clear hO
  go_wp2_with fail
  refine (eqGateS Ag Aw M ys cg cw _ HOg.out.reads HOw.out.reads (by omega)).mono ?_
  rintro e w5 ⟨rfl, hB⟩
  have hs5 : w4.heap.size ≤ w5.heap.size := hB.size
  replace HOw := Lib.hid (HOw.out.below hB (Nat.le_refl _))
  replace HOx := Lib.hid (HOx.out.below hB (Nat.le_refl _))
  replace HOg := Lib.hid (HOg.out.below hB (Nat.le_refl _))
  replace hT := hT.trans (hB.mono hT.size)
  clear hB
  go_wp2_with fail
  refine (toStepS A n zs c _ (HR.out.up (Nat.le_refl _) hT (Nat.le_refl _)) hn).mono ?_
  rintro e w6 ⟨Au, nu, cu, rfl, hO, hB⟩
  have hs6 : w5.heap.size ≤ w6.heap.size := hB.size
  replace HOw := Lib.hid (HOw.out.below hB (Nat.le_refl _))
  replace HOx := Lib.hid (HOx.out.below hB (Nat.le_refl _))
  replace HOg := Lib.hid (HOg.out.below hB (Nat.le_refl _))
  replace hT := hT.trans (hB.mono hT.size)
  clear hB
  obtain rfl : n = nu := by have h1 := hO.len; have h2 := hzl.out; omega
  have hLu := Lib.hid hO.lt
  have HOu := Lib.hid hO
  clear hO
  go_wp2_with fail
  refine (eqStepS Ax Au n zs cx cu _ HOx.out.reads HOu.out.reads hn).mono ?_
  rintro e w7 ⟨rfl, hB⟩
  have hs7 : w6.heap.size ≤ w7.heap.size := hB.size
  replace HOw := Lib.hid (HOw.out.below hB (Nat.le_refl _))
  replace HOx := Lib.hid (HOx.out.below hB (Nat.le_refl _))
  replace HOg := Lib.hid (HOg.out.below hB (Nat.le_refl _))
  replace HOu := Lib.hid (HOu.out.below hB (Nat.le_refl _))
  replace hT := hT.trans (hB.mono hT.size)
  clear hB
  go_wp2_with fail
  refine (markStepS Ax n zs cx _ 1 _ HOx.out hn (by omega) (by omega)).mono ?_
  rintro e w8 ⟨rfl, hO', hG⟩
  have hs8 : w7.heap.size ≤ w8.heap.size := hG.size
  replace HOw := Lib.hid (HOw.out.sepV hG (fun j i hj hi => by have h1 := hLw.out j hj; have h2 := hLx.out i hi; omega))
  replace HOg := Lib.hid (HOg.out.sepV hG (fun j i hj hi => by have h1 := hLg.out j hj; have h2 := hLx.out i hi; omega))
  replace HOx := Lib.hid hO'
  replace hT := hT.grown hG hT.size (fun k hk => by have h1 := (hLx.out k hk).1; omega)
  clear hO' hG
  have hk1 : ¬ ((1 : Int) + 3 * (n : Int)) < 0 := by omega
  go_wp2_with fail
  refine (eqGateS Ag Aw M ys cg cw _ HOg.out.reads HOw.out.reads (by omega)).mono ?_
  rintro e w9 ⟨rfl, hB⟩
  have hs9 : w8.heap.size ≤ w9.heap.size := hB.size
  replace HOw := Lib.hid (HOw.out.below hB (Nat.le_refl _))
  replace HOg := Lib.hid (HOg.out.below hB (Nat.le_refl _))
  replace hT := hT.trans (hB.mono hT.size)
  clear hB
  go_wp2_with fail
  refine (markGateS Ag M ys cg _ 1 _ HOg.out (by omega) (by omega) (by omega)).mono ?_
  rintro e w10 ⟨rfl, hO', hG⟩
  have hs10 : w9.heap.size ≤ w10.heap.size := hG.size
  replace HOw := Lib.hid (HOw.out.sepV hG (fun j i hj hi => by have h1 := hLw.out j hj; have h2 := hLg.out i hi; omega))
  replace HOg := Lib.hid hO'
  replace hT := hT.grown hG hT.size (fun k hk => by have h1 := (hLg.out k hk).1; omega)
  clear hO' hG
  have hk2 : ¬ ((1 : Int) + 4 * (M : Int)) < 0 := by omega
  go_wp2_with fail
  refine (heldGateS Ag M cg 1 _ HOg.out.reads (by omega) (by omega) (by omega)).mono ?_
  rintro e w' ⟨rfl, rfl⟩
  go_wp2_with fail
  refine (toStepS A n zs c _ (HR.out.up (Nat.le_refl _) hT (Nat.le_refl _)) hn).mono ?_
  rintro e w11 ⟨Av, nv, cv, rfl, hO, hB⟩
  have hs11 : w10.heap.size ≤ w11.heap.size := hB.size
  replace HOw := Lib.hid (HOw.out.below hB (Nat.le_refl _))
  replace HOg := Lib.hid (HOg.out.below hB (Nat.le_refl _))
  replace hT := hT.trans (hB.mono hT.size)
  clear hB
  obtain rfl : n = nv := by have h1 := hO.len; have h2 := hzl.out; omega
  have hLv := Lib.hid hO.lt
  have HOv := Lib.hid hO
  clear hO
  go_wp2_with fail
  refine (HCI.out Av cv _ HOv.out.reads (by omega)).mono ?_
  rintro e w12 ⟨Ah, ch, rfl, hO, hB⟩
  have hs12 : w11.heap.size ≤ w12.heap.size := hB.size
  replace HOw := Lib.hid (HOw.out.below hB (Nat.le_refl _))
  replace HOg := Lib.hid (HOg.out.below hB (Nat.le_refl _))
  replace HOv := Lib.hid (HOv.out.below hB (Nat.le_refl _))
  replace hT := hT.trans (hB.mono hT.size)
  clear hB
  have hLh := Lib.hid hO.lt
  have HOh := Lib.hid hO
  clear hO
  go_wp2_with fail
  refine (eqGateS Ah Aw M ys ch cw _ HOh.out.reads HOw.out.reads (by omega)).mono ?_
  rintro e w13 ⟨rfl, hB⟩
  have hs13 : w12.heap.size ≤ w13.heap.size := hB.size
  replace HOw := Lib.hid (HOw.out.below hB (Nat.le_refl _))
  replace HOg := Lib.hid (HOg.out.below hB (Nat.le_refl _))
  replace HOh := Lib.hid (HOh.out.below hB (Nat.le_refl _))
  replace hT := hT.trans (hB.mono hT.size)
  clear hB
  go_wp2_with fail
  refine (heldGateS Ag M cg 1 _ HOg.out.reads (by omega) (by omega) (by omega)).mono ?_
  rintro e w' ⟨rfl, rfl⟩
  go_wp2
  go_ret
  exact ⟨rfl, hT⟩
end Go.Proofs.Ytkpjlkahebeljaa
