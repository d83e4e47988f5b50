/- MovesBack: contracts and the walks of its two laws. -/
import Derived.Test.YtkphaioommhkcaaBack
namespace Go.Proofs.Ytkphaioommhkcaa
open Go.RowKit
set_option linter.unusedVariables false

set_option maxHeartbeats 1000000 in
theorem movesBackS (A : Option Addr) (n : Nat) (zs : List Int) (c : Nat) (w : World) (hr : RI w w.heap.size A n zs) (hl : n ≤ 1048576) :
    Calls Try.prog 23 #[.slice A n c] w (GivesI w zs.reverse) := by
  obtain rfl := hr.len
  obtain ⟨i0, hi, hz0, hz1, hz2⟩ := info_parts infoInt
  go_enter Try.func23, Try.ntmps23
  go_wp2
  go_loopw [3, 4] (fun v i wr => ∃ (k m : Nat) (A' : Option Addr) (c' : Nat), k + m = zs.length ∧ i = .int .i64 ((k : Int) - 1) ∧ v = .slice A' m c' ∧ wr.ownsRow w.heap.size 3 1 (.slice A' m c') m ((zs.drop k).reverse.map (.int .i64)) ∧ Below w.heap.size w wr)
    (fun _ i _ => (intOf i + 1).toNat)
  case atStart =>
    refine ⟨zs.length, 0, _, _, rfl, by first | rfl | (congr 1), rfl, ?_, (Below.refl _ _).alloc (Nat.le_refl _) _⟩
    simp only [List.drop_length, List.reverse_nil, List.map_nil]
    exact OI.empty w
  case round =>
    obtain ⟨k, m, A', c', hkm, rfl, rfl, hown, hB⟩ := hrel
    have HO := Lib.hid hown
    clear hown
    have hBs := hB.size
    cases k with
    | zero =>
      have hm : m = zs.length := by omega
      clear hkm
      go_wp2
      go_ret
      subst hm
      exact ⟨_, _, _, rfl, by unfold OI; simpa using HO.out, hB⟩
    | succ j =>
      have e1 : (((j + 1 : Nat) : Int) - 1) = (j : Int) := by omega
      rw [e1]
      have hjl : j < zs.length := by omega
      have hm1 : m ≤ zs.length := by omega
      have HK := Lib.hid hkm
      obtain ⟨ad, x, rfl, hbb, hx, hcx⟩ := (hr.below hB).at_ hjl
      have HX := Lib.hid hx
      clear hx e1 hkm
      go_wp2_with (at_builtin; refine wpList_append_own _ rfl _ _ 30 rfl w.heap.size 3 i0 (.int .i64 0) 1 8 Try.underlying30 hi hz0 hz1 hz2 rfl (by decide) _ _ _ rfl (HO.out.alloc _) ⟨wr.heap.size, 0, none⟩ 1 1 [.int .i64 x] rfl rfl (cell_one_new _ _ _) (by simp [Value.oneCell']) (by unfold maxLen; omega) (by omega) (by simp; omega) ?_; intro v' w2 hown' hgrow _; obtain ⟨g', cap', rfl⟩ := ownsRow_succ hown')
      have hB2 : Below w.heap.size w w2 := (hB.alloc hBs _).grown hgrow (by simp; omega) (fun q e => (HO.out.lt q e).1)
      go_roundw
      case rel =>
        refine ⟨j, m + 1, _, _, by have := HK.out; omega, by first | rfl | (congr 1), rfl, ?_, hB2⟩
        rw [drop_pred zs j x HX.out]
        simpa using hown'
      case measure => simp [intOf]
theorem movesBack (A : Option Addr) (n : Nat) (zs : List Int) (c : Nat) (w : World) (hr : RI w w.heap.size A n zs) (hl : n ≤ 1048576) :
    Calls Try.prog 25 #[.slice A n c] w (GivesI w zs.reverse) := by
  go_enter Try.func25, Try.ntmps25
  go_wp2_with fail
  refine (backwards A n zs c hl w hr).mono ?_
  rintro e w1 ⟨A1, n1, c1, rfl, hO, hB⟩
  go_wp2
  go_ret
  exact ⟨A1, n1, c1, rfl, hO, hB⟩
set_option maxHeartbeats 2000000 in
theorem walkFnExactMovesBack (w : World) (A0 : Option Addr) (z0 : List Int) (c0 : Nat) (hc0 : z0.length ≤ c0 ∧ c0 ≤ maxLen) (hr0 : RI w w.heap.size A0 z0.length z0) :
    Calls Try.prog 7 #[.slice A0 z0.length c0] w fun e w' => e = .returned (.bool true) ∧ Below w.heap.size w w' := by
  have hcm0 := hc0.2
  unfold maxLen at hcm0
  by_cases hl0 : 1048576 < z0.length
  · go_enter Try.func7, Try.ntmps7
    go_wp2
    go_ret
    exact ⟨rfl, Below.refl _ _⟩
  have hn0 : z0.length ≤ 1048576 := by omega
  have hE : eqL (z0.reverse) (z0.reverse) = true := eqL_self _
  have hLn : (z0.reverse).length ≤ 1048576 := by simp; omega
  have HLn := Lib.hid hLn
  clear hLn
  go_enter Try.func7, Try.ntmps7
  have hBt : Below w.heap.size w w := Below.refl _ _
  go_wp2_with fail
  refine (toIntS A0 _ z0 c0 _ (hr0.up (Nat.le_refl _) hBt (Nat.le_refl _)) hn0).mono ?_
  rintro e w1 ⟨As0, ns0, cs0, rfl, hOs0, hB⟩
  have hNs0 : ns0 ≤ 1048576 := by have := OI.len hOs0; omega
  have hs1 : w.heap.size ≤ w1.heap.size := hB.size
  replace hBt := hBt.trans (hB.mono hBt.size)
  clear hB
  have hLs0 := Lib.hid (OI.lt hOs0)
  go_wp2_with fail
  refine (movesBackS _ _ z0 _ _ hOs0.reads hNs0).mono ?_
  rintro e w2 ⟨Aw, nw, cw, rfl, hOw, hB⟩
  have hNw : nw ≤ 1048576 := by have := OI.len hOw; have := HLn.out; omega
  have hs2 : w1.heap.size ≤ w2.heap.size := hB.size
  replace hBt := hBt.trans (hB.mono hBt.size)
  replace hOs0 := hOs0.below hB (Nat.le_refl _)
  clear hB
  have hLw := Lib.hid (OI.lt hOw)
  go_wp2_with fail
  refine (toIntS A0 _ z0 c0 _ (hr0.up (Nat.le_refl _) hBt (Nat.le_refl _)) hn0).mono ?_
  rintro e w3 ⟨Ax0, nx0, cx0, rfl, hOx0, hB⟩
  have hNx0 : nx0 ≤ 1048576 := by have := OI.len hOx0; omega
  have hs3 : w2.heap.size ≤ w3.heap.size := hB.size
  replace hBt := hBt.trans (hB.mono hBt.size)
  replace hOs0 := hOs0.below hB (Nat.le_refl _)
  replace hOw := hOw.below hB (Nat.le_refl _)
  clear hB
  have hLx0 := Lib.hid (OI.lt hOx0)
  go_wp2_with fail
  refine (movesBack _ _ z0 _ _ hOx0.reads hNx0).mono ?_
  rintro e w4 ⟨Ag, ng, cg, rfl, hOg, hB⟩
  have hNg : ng ≤ 1048576 := by have := OI.len hOg; have := HLn.out; omega
  have hs4 : w3.heap.size ≤ w4.heap.size := hB.size
  replace hBt := hBt.trans (hB.mono hBt.size)
  replace hOs0 := hOs0.below hB (Nat.le_refl _)
  replace hOw := hOw.below hB (Nat.le_refl _)
  replace hOx0 := hOx0.below hB (Nat.le_refl _)
  clear hB
  have hLg := Lib.hid (OI.lt hOg)
  go_wp2_with fail
  refine (eqIntS' _ _ _ _ _ _ _ _ _ hOg.reads hOw.reads (by omega) (by omega)).mono ?_
  rintro e w5 ⟨rfl, hB⟩
  have hs5 : w4.heap.size ≤ w5.heap.size := hB.size
  replace hBt := hBt.trans (hB.mono hBt.size)
  replace hOs0 := hOs0.below hB (Nat.le_refl _)
  replace hOw := hOw.below hB (Nat.le_refl _)
  replace hOx0 := hOx0.below hB (Nat.le_refl _)
  replace hOg := hOg.below hB (Nat.le_refl _)
  clear hB
  go_wp2_with fail
  refine (toIntS A0 _ z0 c0 _ (hr0.up (Nat.le_refl _) hBt (Nat.le_refl _)) hn0).mono ?_
  rintro e w6 ⟨Ay0, ny0, cy0, rfl, hOy0, hB⟩
  have hNy0 : ny0 ≤ 1048576 := by have := OI.len hOy0; omega
  have hs6 : w5.heap.size ≤ w6.heap.size := hB.size
  replace hBt := hBt.trans (hB.mono hBt.size)
  replace hOs0 := hOs0.below hB (Nat.le_refl _)
  replace hOw := hOw.below hB (Nat.le_refl _)
  replace hOx0 := hOx0.below hB (Nat.le_refl _)
  replace hOg := hOg.below hB (Nat.le_refl _)
  clear hB
  have hLy0 := Lib.hid (OI.lt hOy0)
  have hE0 : eqL z0 z0 = true := eqL_self _
  go_wp2_with fail
  refine (eqIntS' _ _ _ _ _ _ _ _ _ hOx0.reads hOy0.reads (by omega) (by omega)).mono ?_
  rintro e w7 ⟨rfl, hB⟩
  have hs7 : w6.heap.size ≤ w7.heap.size := hB.size
  replace hBt := hBt.trans (hB.mono hBt.size)
  replace hOs0 := hOs0.below hB (Nat.le_refl _)
  replace hOw := hOw.below hB (Nat.le_refl _)
  replace hOx0 := hOx0.below hB (Nat.le_refl _)
  replace hOg := hOg.below hB (Nat.le_refl _)
  replace hOy0 := hOy0.below hB (Nat.le_refl _)
  clear hB
  go_wp2_with fail
  refine (markIntS _ _ _ _ _ _ _ hOx0 (by omega) (by omega) (by omega)).mono ?_
  rintro e w8 ⟨rfl, hO', hG⟩
  clear hOx0
  have hOx0 := hO'
  clear hO'
  have hs8 : w7.heap.size ≤ w8.heap.size := hG.size
  replace hBt := hBt.grown hG hBt.size (fun k hk => by have := (hLx0.out k hk).1; omega)
  replace hOs0 := hOs0.sepV hG (fun j k hj hk => by have := hLs0.out j hj; have := hLx0.out k hk; omega)
  replace hOw := hOw.sepV hG (fun j k hj hk => by have := hLw.out j hj; have := hLx0.out k hk; omega)
  replace hOg := hOg.sepV hG (fun j k hj hk => by have := hLg.out j hj; have := hLx0.out k hk; omega)
  replace hOy0 := hOy0.sepV hG (fun j k hj hk => by have := hLy0.out j hj; have := hLx0.out k hk; omega)
  clear hG
  go_wp2_with fail
  refine (eqIntS' _ _ _ _ _ _ _ _ _ hOg.reads hOw.reads (by omega) (by omega)).mono ?_
  rintro e w9 ⟨rfl, hB⟩
  have hs9 : w8.heap.size ≤ w9.heap.size := hB.size
  replace hBt := hBt.trans (hB.mono hBt.size)
  replace hOs0 := hOs0.below hB (Nat.le_refl _)
  replace hOw := hOw.below hB (Nat.le_refl _)
  replace hOx0 := hOx0.below hB (Nat.le_refl _)
  replace hOg := hOg.below hB (Nat.le_refl _)
  replace hOy0 := hOy0.below hB (Nat.le_refl _)
  clear hB
  go_wp2_with fail
  refine (markIntS _ _ _ _ _ _ _ hOg (by omega) (by omega) (by omega)).mono ?_
  rintro e w10 ⟨rfl, hO', hG⟩
  clear hOg
  have hOg := hO'
  clear hO'
  have hs10 : w9.heap.size ≤ w10.heap.size := hG.size
  replace hBt := hBt.grown hG hBt.size (fun k hk => by have := (hLg.out k hk).1; omega)
  replace hOs0 := hOs0.sepV hG (fun j k hj hk => by have := hLs0.out j hj; have := hLg.out k hk; omega)
  replace hOw := hOw.sepV hG (fun j k hj hk => by have := hLw.out j hj; have := hLg.out k hk; omega)
  replace hOx0 := hOx0.sepV hG (fun j k hj hk => by have := hLx0.out j hj; have := hLg.out k hk; omega)
  replace hOy0 := hOy0.sepV hG (fun j k hj hk => by have := hLy0.out j hj; have := hLg.out k hk; omega)
  clear hG
  go_wp2_with fail
  refine (heldIntS _ _ _ _ _ hOg.reads (by omega) (by omega) (by omega)).mono ?_
  rintro e w' ⟨rfl, rfl⟩
  go_wp2_with fail
  refine (toIntS A0 _ z0 c0 _ (hr0.up (Nat.le_refl _) hBt (Nat.le_refl _)) hn0).mono ?_
  rintro e w11 ⟨Ah0, nh0, ch0, rfl, hOh0, hB⟩
  have hNh0 : nh0 ≤ 1048576 := by have := OI.len hOh0; omega
  have hs11 : w10.heap.size ≤ w11.heap.size := hB.size
  replace hBt := hBt.trans (hB.mono hBt.size)
  replace hOs0 := hOs0.below hB (Nat.le_refl _)
  replace hOw := hOw.below hB (Nat.le_refl _)
  replace hOx0 := hOx0.below hB (Nat.le_refl _)
  replace hOg := hOg.below hB (Nat.le_refl _)
  replace hOy0 := hOy0.below hB (Nat.le_refl _)
  clear hB
  have hLh0 := Lib.hid (OI.lt hOh0)
  go_wp2_with fail
  refine (movesBack _ _ z0 _ _ hOh0.reads hNh0).mono ?_
  rintro e w12 ⟨Ah, nh, ch, rfl, hOh, hB⟩
  have hNh : nh ≤ 1048576 := by have := OI.len hOh; have := HLn.out; omega
  have hs12 : w11.heap.size ≤ w12.heap.size := hB.size
  replace hBt := hBt.trans (hB.mono hBt.size)
  replace hOs0 := hOs0.below hB (Nat.le_refl _)
  replace hOw := hOw.below hB (Nat.le_refl _)
  replace hOx0 := hOx0.below hB (Nat.le_refl _)
  replace hOg := hOg.below hB (Nat.le_refl _)
  replace hOy0 := hOy0.below hB (Nat.le_refl _)
  replace hOh0 := hOh0.below hB (Nat.le_refl _)
  clear hB
  have hLh := Lib.hid (OI.lt hOh)
  go_wp2_with fail
  refine (eqIntS' _ _ _ _ _ _ _ _ _ hOh.reads hOw.reads (by omega) (by omega)).mono ?_
  rintro e w13 ⟨rfl, hB⟩
  have hs13 : w12.heap.size ≤ w13.heap.size := hB.size
  replace hBt := hBt.trans (hB.mono hBt.size)
  replace hOs0 := hOs0.below hB (Nat.le_refl _)
  replace hOw := hOw.below hB (Nat.le_refl _)
  replace hOx0 := hOx0.below hB (Nat.le_refl _)
  replace hOg := hOg.below hB (Nat.le_refl _)
  replace hOy0 := hOy0.below hB (Nat.le_refl _)
  replace hOh0 := hOh0.below hB (Nat.le_refl _)
  replace hOh := hOh.below hB (Nat.le_refl _)
  clear hB
  go_wp2_with fail
  refine (heldIntS _ _ _ _ _ hOg.reads (by omega) (by omega) (by omega)).mono ?_
  rintro e w' ⟨rfl, rfl⟩
  go_wp2
  go_ret
  exact ⟨rfl, hBt⟩
end Go.Proofs.Ytkphaioommhkcaa
