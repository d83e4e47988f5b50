/- The walk of the exact law on moves by halves. -/
import Derived.Test.YtmppiifkajmbgaaHalfS
namespace Go.Proofs.Ytmppiifkajmbgaa
open Go.RowKit
set_option linter.unusedVariables false

set_option maxHeartbeats 2000000 in
theorem walkFnExactHalfMoves (w : World) (a0 : Int) (_w0 : (Lit.int .i64 a0).wf = true) :
    Calls Try.prog 4 #[.int .i64 a0] w fun e w' => e = .returned (.bool true) ∧ Below w.heap.size w w' := by
  clear _w0
  have hE : eqL (hvL a0) (hvL a0) = true := eqL_self _
  have hLn : (hvL a0).length ≤ 1048576 := Nat.le_trans (hv_len _) (by omega)
  have HLn := Lib.hid hLn
  clear hLn
  go_enter Try.func4, Try.ntmps4
  have hBt : Below w.heap.size w w := Below.refl _ _
  go_wp2_with fail
  refine (halfMovesS a0 _ ).mono ?_
  rintro e w1 ⟨Aw, nw, cw, rfl, hOw, hB⟩
  have hNw : nw ≤ 1048576 := by have := OI.len hOw; have := HLn.out; omega
  have hs1 : w.heap.size ≤ w1.heap.size := hB.size
  replace hBt := hBt.trans (hB.mono hBt.size)
  clear hB
  have hLw := Lib.hid (OI.lt hOw)
  go_wp2_with fail
  refine (halfMoves a0 _ ).mono ?_
  rintro e w2 ⟨Ag, ng, cg, rfl, hOg, hB⟩
  have hNg : ng ≤ 1048576 := by have := OI.len hOg; have := HLn.out; omega
  have hs2 : w1.heap.size ≤ w2.heap.size := hB.size
  replace hBt := hBt.trans (hB.mono hBt.size)
  replace hOw := hOw.below hB (Nat.le_refl _)
  clear hB
  have hLg := Lib.hid (OI.lt hOg)
  go_wp2_with fail
  refine (eqIntS' _ _ _ _ _ _ _ _ _ hOg.reads hOw.reads (by omega) (by omega)).mono ?_
  rintro e w3 ⟨rfl, hB⟩
  have hs3 : w2.heap.size ≤ w3.heap.size := hB.size
  replace hBt := hBt.trans (hB.mono hBt.size)
  replace hOw := hOw.below hB (Nat.le_refl _)
  replace hOg := hOg.below hB (Nat.le_refl _)
  clear hB
  go_wp2_with fail
  refine (markIntS _ _ _ _ _ _ _ hOg (by omega) (by omega) (by omega)).mono ?_
  rintro e w4 ⟨rfl, hO', hG⟩
  clear hOg
  have hOg := hO'
  clear hO'
  have hs4 : w3.heap.size ≤ w4.heap.size := hG.size
  replace hBt := hBt.grown hG hBt.size (fun k hk => by have := (hLg.out k hk).1; omega)
  replace hOw := hOw.sepV hG (fun j k hj hk => by have := hLw.out j hj; have := hLg.out k hk; omega)
  clear hG
  go_wp2_with fail
  refine (heldIntS _ _ _ _ _ hOg.reads (by omega) (by omega) (by omega)).mono ?_
  rintro e w' ⟨rfl, rfl⟩
  go_wp2_with fail
  refine (halfMoves a0 _ ).mono ?_
  rintro e w5 ⟨Ah, nh, ch, rfl, hOh, hB⟩
  have hNh : nh ≤ 1048576 := by have := OI.len hOh; have := HLn.out; omega
  have hs5 : w4.heap.size ≤ w5.heap.size := hB.size
  replace hBt := hBt.trans (hB.mono hBt.size)
  replace hOw := hOw.below hB (Nat.le_refl _)
  replace hOg := hOg.below hB (Nat.le_refl _)
  clear hB
  have hLh := Lib.hid (OI.lt hOh)
  go_wp2_with fail
  refine (eqIntS' _ _ _ _ _ _ _ _ _ hOh.reads hOw.reads (by omega) (by omega)).mono ?_
  rintro e w6 ⟨rfl, hB⟩
  have hs6 : w5.heap.size ≤ w6.heap.size := hB.size
  replace hBt := hBt.trans (hB.mono hBt.size)
  replace hOw := hOw.below hB (Nat.le_refl _)
  replace hOg := hOg.below hB (Nat.le_refl _)
  replace hOh := hOh.below hB (Nat.le_refl _)
  clear hB
  go_wp2_with fail
  refine (heldIntS _ _ _ _ _ hOg.reads (by omega) (by omega) (by omega)).mono ?_
  rintro e w' ⟨rfl, rfl⟩
  go_wp2
  go_ret
  exact ⟨rfl, hBt⟩
end Go.Proofs.Ytmppiifkajmbgaa
