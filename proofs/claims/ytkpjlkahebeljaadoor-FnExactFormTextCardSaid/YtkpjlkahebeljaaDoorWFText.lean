/- The walk of the exact law FnExactFormText. -/
import Derived.Test.YtkpjlkahebeljaaDoorStepsB
import Derived.Test.YtkpjlkahebeljaaDoorFTextI2
namespace Go.Proofs.YtkpjlkahebeljaaDoor
open Go.RowKit
set_option linter.unusedVariables false

set_option maxHeartbeats 8000000 in
theorem walkFnExactFormText (w : World) (a0 : Int) (_w0 : (Lit.int .i64 a0).wf = true) (A : Option Addr) (n : Nat) (zs : List Int) (c : Nat) (hc : n ≤ c ∧ c ≤ maxLen) (hr : RI w w.heap.size A (n * 3) zs) :
    Calls Tryd.prog 6 #[.int .i64 a0, .slice A n c] w fun e w' => e = .returned (.bool true) ∧ Below w.heap.size w w' := by
  clear _w0
  have hT : Below w.heap.size w w := Below.refl _ _
  have hzl := Lib.hid hr.len
  have HR := Lib.hid hr
  clear hr
  obtain ⟨T, hTx⟩ : ∃ T : ByteArray, (⟨(fxF a0 n zs).toArray⟩ : ByteArray) = T := ⟨_, rfl⟩
  have HCS := Lib.hid (fun A c w hr hl => formTextS a0 A n zs c w hr hl)
  have HCI := Lib.hid (fun A c w hr hl => formTextI a0 A n zs c w hr hl)
  unfold GivesS at HCS HCI
  rw [hTx] at HCS HCI
  clear hTx
  go_enter Tryd.func6, Tryd.ntmps6
  go_wp2_with fail
  refine (szStepS A n c _ hc).mono ?_
  rintro e w' ⟨rfl, rfl⟩
  by_cases hl : (1048576 : Int) < (n : Int)
  · rw [if_pos hl]
    go_wp2
    go_ret
    exact ⟨rfl, hT⟩
  rw [if_neg hl]
  have hn : n ≤ 1048576 := by omega
  have hnl : ¬ (1048576 - (n : Int) : Int) < 0 := by omega
  clear hl
  go_wp2_with fail
  refine (toStepS A n zs c _ (HR.out.up (Nat.le_refl _) hT (Nat.le_refl _)) hn).mono ?_
  rintro e w1 ⟨At, nt, ct, rfl, hO, hB⟩
  have hs1 : w.heap.size ≤ w1.heap.size := hB.size
  replace hT := hT.trans (hB.mono hT.size)
  clear hB
  obtain rfl : n = nt := by have h1 := hO.len; have h2 := hzl.out; omega
  have HOt := Lib.hid hO
  clear hO
  go_wp2_with fail
  refine (HCS.out At ct _ HOt.out.reads (by omega)).mono ?_
  rintro e w2 ⟨rfl, hB⟩
  have hs2 : w1.heap.size ≤ w2.heap.size := hB.size
  replace hT := hT.trans (hB.mono hT.size)
  clear hB HOt
  go_wp2_with fail
  refine (toStepS A n zs c _ (HR.out.up (Nat.le_refl _) hT (Nat.le_refl _)) hn).mono ?_
  rintro e w3 ⟨Ax, nx, cx, rfl, hO, hB⟩
  have hs3 : w2.heap.size ≤ w3.heap.size := hB.size
  replace hT := hT.trans (hB.mono hT.size)
  clear hB
  obtain rfl : n = nx := by have h1 := hO.len; have h2 := hzl.out; omega
  have HOx := Lib.hid hO
  clear hO
  go_wp2_with fail
  refine (HCI.out Ax cx _ HOx.out.reads (by omega)).mono ?_
  rintro e w4 ⟨rfl, hB⟩
  have hs4 : w3.heap.size ≤ w4.heap.size := hB.size
  replace HOx := Lib.hid (HOx.out.below hB (Nat.le_refl _))
  replace hT := hT.trans (hB.mono hT.size)
  clear hB
  go_wp2_with fail
  refine (toStepS A n zs c _ (HR.out.up (Nat.le_refl _) hT (Nat.le_refl _)) hn).mono ?_
  rintro e w5 ⟨Au, nu, cu, rfl, hO, hB⟩
  have hs5 : w4.heap.size ≤ w5.heap.size := hB.size
  replace HOx := Lib.hid (HOx.out.below hB (Nat.le_refl _))
  replace hT := hT.trans (hB.mono hT.size)
  clear hB
  obtain rfl : n = nu := by have h1 := hO.len; have h2 := hzl.out; omega
  have HOu := Lib.hid hO
  clear hO
  go_wp2_with fail
  refine (eqStepS Ax Au n zs cx cu _ HOx.out.reads HOu.out.reads hn).mono ?_
  rintro e w6 ⟨rfl, hB⟩
  replace hT := hT.trans (hB.mono hT.size)
  clear hB
  go_wp2
  go_ret
  exact ⟨rfl, hT⟩
end Go.Proofs.YtkpjlkahebeljaaDoor
