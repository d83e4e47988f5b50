/- The walk of the exact law on steps. -/
import Derived.Test.YtmianlihdiccjaaStepH
import Derived.Deep.RegionHeld3
namespace Go.Proofs.Ytmianlihdiccjaa
open Go.RowKit
set_option linter.unusedVariables false

theorem vfs_len {b : Bool} {s : Int} {h : Bool} {zs : List Bool} (hb : b = fvB s zs) (hz : zs.length ≤ 1048576) : (vL b (fsL s h zs)).length ≤ 1048576 := by
  subst hb
  exact vL_len fun hv => by rw [fs_len hv]; exact hz
set_option maxHeartbeats 8000000 in
theorem walkFnExactFieldStep (w : World) (s0 : Int) (A0 : Option Addr) (z0 : List Bool) (c0 : Nat) (h0 : Bool) (hc0 : z0.length ≤ c0 ∧ c0 ≤ maxLen) (hr0 : RL w w.heap.size A0 z0.length z0) :
    Calls Try.prog 11 #[.agg #[.int .i64 s0, .slice A0 z0.length c0, .bool h0]] w fun e w' => e = .returned (.bool true) ∧ Below w.heap.size w w' := by
  have hT : Below w.heap.size w w := Below.refl _ _
  obtain ⟨w1, hwa0⟩ : ∃ W, w.alloc (.cells #[.int .i64 s0, .slice A0 z0.length c0, .bool h0] 24) = W := ⟨_, rfl⟩
  obtain ⟨ga0, hga0⟩ : ∃ g, w.heap.size = g := ⟨_, rfl⟩
  have hB : Below w.heap.size w w1 := by rw [← hwa0]; exact (Below.refl _ _).alloc (Nat.le_refl _) _
  have HRn := Lib.hid (show Row3 w1 ga0 24 (.int .i64 s0) (.slice A0 z0.length c0) (.bool h0) by rw [← hwa0, ← hga0]; exact Row3.new _ _ _ _ _)
  have hgla0 : ga0 < w1.heap.size := HRn.out.lt
  have hgba0 : w.heap.size ≤ ga0 := by omega
  have hs1 : w.heap.size ≤ w1.heap.size := hB.size
  replace hT := hT.trans (hB.mono hT.size)
  clear hB
  have HRa0 := HRn
  clear HRn
  obtain ⟨qa00, qa01, qa02, qa03, qa04, qa05⟩ := HRa0.out.at_
  go_enter Try.func11, Try.ntmps11
  go_wp2_with fail
  refine (szField s0 A0 z0.length c0 h0 (1048576) _ hc0.1 hc0.2 (by omega) (by omega)).mono ?_
  rintro e w2 ⟨rfl, hB⟩
  have HWa0 := Lib.hid hwa0
  have HGa0 := Lib.hid hga0
  clear hwa0 hga0
  clear qa00 qa01 qa02 qa03 qa04 qa05
  have hs2 : w1.heap.size ≤ w2.heap.size := hB.size
  replace HRa0 := Lib.hid (HRa0.out.below hB HRa0.out.lt)
  replace hT := hT.trans (hB.mono hT.size)
  clear hB
  by_cases hl0 : (1048576 : Int) < (z0.length : Int)
  · rw [if_pos hl0]
    go_wp2
    go_ret
    exact ⟨rfl, hT⟩
  rw [if_neg hl0]
  have hn0 : z0.length ≤ 1048576 := by omega
  have hnl0 : ¬ (1048576 - (z0.length : Int) : Int) < 0 := by omega
  obtain ⟨qa00, qa01, qa02, qa03, qa04, qa05⟩ := HRa0.out.at_
  go_wp2_with fail
  refine (toField s0 A0 _ z0 c0 h0 _ (hr0.arg (Nat.le_refl _) hT) hn0).mono ?_
  rintro e w3 ⟨At0, nt0, ct0, rfl, hO, hB⟩
  clear qa00 qa01 qa02 qa03 qa04 qa05
  have hs3 : w2.heap.size ≤ w3.heap.size := hB.size
  replace HRa0 := Lib.hid (HRa0.out.below hB HRa0.out.lt)
  replace hT := hT.trans (hB.mono hT.size)
  clear hB
  have hNt0 : nt0 ≤ 1048576 := by have := hO.len; omega
  have hLt0 := Lib.hid hO.lt
  have HOt0 := Lib.hid hO
  clear hO
  go_wp2_with fail
  refine (fieldStepS s0 At0 _ z0 ct0 h0  _ HOt0.out.reads (by omega)).mono ?_
  rintro e w4 ⟨Aw, nw, cw, rfl, hO, hB⟩
  have hs4 : w3.heap.size ≤ w4.heap.size := hB.size
  replace HRa0 := Lib.hid (HRa0.out.below hB HRa0.out.lt)
  replace HOt0 := Lib.hid (HOt0.out.below hB (Nat.le_refl _))
  replace hT := hT.trans (hB.mono hT.size)
  clear hB
  have hNw : nw ≤ 1048576 := by have := hO.len; have hk : (vL (fvB s0 z0) (fsL s0 h0 z0)).length ≤ 1048576 := vfs_len rfl hn0; omega
  have hLw := Lib.hid hO.lt
  have HOw := Lib.hid hO
  clear hO
  obtain ⟨w5, hww⟩ : ∃ W, w4.alloc (.cells #[.int .i64 (vI (fvB s0 z0) s0), .slice Aw nw cw, .bool (vH (fvB s0 z0) (!h0))] 27) = W := ⟨_, rfl⟩
  obtain ⟨gw, hgw⟩ : ∃ g, w4.heap.size = g := ⟨_, rfl⟩
  have hB : Below w4.heap.size w4 w5 := by rw [← hww]; exact (Below.refl _ _).alloc (Nat.le_refl _) _
  have HRn := Lib.hid (show Row3 w5 gw 27 (.int .i64 (vI (fvB s0 z0) s0)) (.slice Aw nw cw) (.bool (vH (fvB s0 z0) (!h0))) by rw [← hww, ← hgw]; exact Row3.new _ _ _ _ _)
  have hglw : gw < w5.heap.size := HRn.out.lt
  have hgbw : w4.heap.size ≤ gw := by omega
  have hs5 : w4.heap.size ≤ w5.heap.size := hB.size
  replace HRa0 := Lib.hid (HRa0.out.below hB HRa0.out.lt)
  replace HOt0 := Lib.hid (HOt0.out.below hB (Nat.le_refl _))
  replace HOw := Lib.hid (HOw.out.below hB (Nat.le_refl _))
  replace hT := hT.trans (hB.mono hT.size)
  clear hB
  have HRw := HRn
  clear HRn
  obtain ⟨qa00, qa01, qa02, qa03, qa04, qa05⟩ := HRa0.out.at_
  obtain ⟨qw0, qw1, qw2, qw3, qw4, qw5⟩ := HRw.out.at_
  go_wp2_with fail
  refine (toField s0 A0 _ z0 c0 h0 _ (hr0.arg (Nat.le_refl _) hT) hn0).mono ?_
  rintro e w6 ⟨Ax0, nx0, cx0, rfl, hO, hB⟩
  have HWw := Lib.hid hww
  have HGw := Lib.hid hgw
  clear hww hgw
  clear qa00 qa01 qa02 qa03 qa04 qa05 qw0 qw1 qw2 qw3 qw4 qw5
  have hs6 : w5.heap.size ≤ w6.heap.size := hB.size
  replace HRa0 := Lib.hid (HRa0.out.below hB HRa0.out.lt)
  replace HRw := Lib.hid (HRw.out.below hB HRw.out.lt)
  replace HOw := Lib.hid (HOw.out.below hB (Nat.le_refl _))
  replace hT := hT.trans (hB.mono hT.size)
  clear hB
  have hNx0 : nx0 ≤ 1048576 := by have := hO.len; omega
  have hLx0 := Lib.hid hO.lt
  have HOx0 := Lib.hid hO
  clear hO
  obtain ⟨w7, hwx0⟩ : ∃ W, w6.alloc (.cells #[.int .i64 s0, .slice Ax0 nx0 cx0, .bool h0] 27) = W := ⟨_, rfl⟩
  obtain ⟨gx0, hgx0⟩ : ∃ g, w6.heap.size = g := ⟨_, rfl⟩
  have hB : Below w6.heap.size w6 w7 := by rw [← hwx0]; exact (Below.refl _ _).alloc (Nat.le_refl _) _
  have HRn := Lib.hid (show Row3 w7 gx0 27 (.int .i64 s0) (.slice Ax0 nx0 cx0) (.bool h0) by rw [← hwx0, ← hgx0]; exact Row3.new _ _ _ _ _)
  have hglx0 : gx0 < w7.heap.size := HRn.out.lt
  have hgbx0 : w6.heap.size ≤ gx0 := by omega
  have hs7 : w6.heap.size ≤ w7.heap.size := hB.size
  replace HRa0 := Lib.hid (HRa0.out.below hB HRa0.out.lt)
  replace HRw := Lib.hid (HRw.out.below hB HRw.out.lt)
  replace HOw := Lib.hid (HOw.out.below hB (Nat.le_refl _))
  replace HOx0 := Lib.hid (HOx0.out.below hB (Nat.le_refl _))
  replace hT := hT.trans (hB.mono hT.size)
  clear hB
  have HRx0 := HRn
  clear HRn
  obtain ⟨qa00, qa01, qa02, qa03, qa04, qa05⟩ := HRa0.out.at_
  obtain ⟨qw0, qw1, qw2, qw3, qw4, qw5⟩ := HRw.out.at_
  obtain ⟨qx00, qx01, qx02, qx03, qx04, qx05⟩ := HRx0.out.at_
  go_wp2_with fail
  refine (fieldStep s0 Ax0 _ z0 cx0 h0  _ HOx0.out.reads (by omega)).mono ?_
  rintro e w8 ⟨Ag, ng, cg, rfl, hO, hB⟩
  have HWx0 := Lib.hid hwx0
  have HGx0 := Lib.hid hgx0
  clear hwx0 hgx0
  clear qa00 qa01 qa02 qa03 qa04 qa05 qw0 qw1 qw2 qw3 qw4 qw5 qx00 qx01 qx02 qx03 qx04 qx05
  have hs8 : w7.heap.size ≤ w8.heap.size := hB.size
  replace HRa0 := Lib.hid (HRa0.out.below hB HRa0.out.lt)
  replace HRw := Lib.hid (HRw.out.below hB HRw.out.lt)
  replace HRx0 := Lib.hid (HRx0.out.below hB HRx0.out.lt)
  replace HOw := Lib.hid (HOw.out.below hB (Nat.le_refl _))
  replace HOx0 := Lib.hid (HOx0.out.below hB (Nat.le_refl _))
  replace hT := hT.trans (hB.mono hT.size)
  clear hB
  have hNg : ng ≤ 1048576 := by have := hO.len; have hk : (vL (fvB s0 z0) (fsL s0 h0 z0)).length ≤ 1048576 := vfs_len rfl hn0; omega
  have hLg := Lib.hid hO.lt
  have HOg := Lib.hid hO
  clear hO
  obtain ⟨w9, hwg⟩ : ∃ W, w8.alloc (.cells #[.int .i64 (vI (fvB s0 z0) s0), .slice Ag ng cg, .bool (vH (fvB s0 z0) (!h0))] 27) = W := ⟨_, rfl⟩
  obtain ⟨gg, hgg⟩ : ∃ g, w8.heap.size = g := ⟨_, rfl⟩
  have hB : Below w8.heap.size w8 w9 := by rw [← hwg]; exact (Below.refl _ _).alloc (Nat.le_refl _) _
  have HRn := Lib.hid (show Row3 w9 gg 27 (.int .i64 (vI (fvB s0 z0) s0)) (.slice Ag ng cg) (.bool (vH (fvB s0 z0) (!h0))) by rw [← hwg, ← hgg]; exact Row3.new _ _ _ _ _)
  have hglg : gg < w9.heap.size := HRn.out.lt
  have hgbg : w8.heap.size ≤ gg := by omega
  have hs9 : w8.heap.size ≤ w9.heap.size := hB.size
  replace HRa0 := Lib.hid (HRa0.out.below hB HRa0.out.lt)
  replace HRw := Lib.hid (HRw.out.below hB HRw.out.lt)
  replace HRx0 := Lib.hid (HRx0.out.below hB HRx0.out.lt)
  replace HOw := Lib.hid (HOw.out.below hB (Nat.le_refl _))
  replace HOx0 := Lib.hid (HOx0.out.below hB (Nat.le_refl _))
  replace HOg := Lib.hid (HOg.out.below hB (Nat.le_refl _))
  replace hT := hT.trans (hB.mono hT.size)
  clear hB
  have HRg := HRn
  clear HRn
  obtain ⟨qg0, qg1, qg2, qg3, qg4, qg5⟩ := HRg.out.at_
  obtain ⟨qw0, qw1, qw2, qw3, qw4, qw5⟩ := HRw.out.at_
  go_wp2_with fail
  refine (eqField (vI (fvB s0 z0) s0) Ag _ _ cg (vH (fvB s0 z0) (!h0)) Aw _ _ cw _ rfl HOg.out.reads HOw.out.reads hNg hNw).mono ?_
  rintro e w10 ⟨rfl, hB⟩
  have HWg := Lib.hid hwg
  have HGg := Lib.hid hgg
  clear hwg hgg
  clear qg0 qg1 qg2 qg3 qg4 qg5 qw0 qw1 qw2 qw3 qw4 qw5
  have hs10 : w9.heap.size ≤ w10.heap.size := hB.size
  replace HRa0 := Lib.hid (HRa0.out.below hB HRa0.out.lt)
  replace HRw := Lib.hid (HRw.out.below hB HRw.out.lt)
  replace HRx0 := Lib.hid (HRx0.out.below hB HRx0.out.lt)
  replace HRg := Lib.hid (HRg.out.below hB HRg.out.lt)
  replace HOw := Lib.hid (HOw.out.below hB (Nat.le_refl _))
  replace HOx0 := Lib.hid (HOx0.out.below hB (Nat.le_refl _))
  replace HOg := Lib.hid (HOg.out.below hB (Nat.le_refl _))
  replace hT := hT.trans (hB.mono hT.size)
  clear hB
  obtain ⟨qx00, qx01, qx02, qx03, qx04, qx05⟩ := HRx0.out.at_
  obtain ⟨qa00, qa01, qa02, qa03, qa04, qa05⟩ := HRa0.out.at_
  go_wp2
  have HS0 := Lib.hid (HRx0.out.six HRa0.out)
  have hTd := hT.drew
  go_region_held3 (fun w' => w'.cell? ⟨gx0, 0, none⟩ = some (.int .i64 s0) ∧ w'.cell? ⟨gx0, 1, none⟩ = some (.slice Ax0 nx0 cx0) ∧ w'.cell? ⟨gx0, 2, none⟩ = some (.bool h0) ∧ w'.cell? ⟨ga0, 0, none⟩ = some (.int .i64 s0) ∧ w'.cell? ⟨ga0, 1, none⟩ = some (.slice A0 z0.length c0) ∧ w'.cell? ⟨ga0, 2, none⟩ = some (.bool h0)) (first | go_keep | exact HS1.out | exact HS2.out)
    (first | (go_at_call 17; (refine (toField s0 A0 _ z0 c0 h0 _ (hr0.arg (Nat.le_refl _) hTd) hn0).mono ?_); rintro e w11 ⟨At, nt, ct, rfl, hO, hB0⟩; (have hB : Below w10.heap.size w10 w11 := (below_drew w10).trans hB0); (clear hB0); (have hs11 : w10.heap.size ≤ w11.heap.size := hB.size); (replace HRa0 := Lib.hid (HRa0.out.below hB HRa0.out.lt)); (replace HRw := Lib.hid (HRw.out.below hB HRw.out.lt)); (replace HRx0 := Lib.hid (HRx0.out.below hB HRx0.out.lt)); (replace HRg := Lib.hid (HRg.out.below hB HRg.out.lt)); (replace HOw := Lib.hid (HOw.out.below hB (Nat.le_refl _))); (replace HOx0 := Lib.hid (HOx0.out.below hB (Nat.le_refl _))); (replace HOg := Lib.hid (HOg.out.below hB (Nat.le_refl _))); (replace hT := hT.trans (hB.mono hT.size)); (clear hB); (have hNt : nt ≤ 1048576 := (by have := hO.len; omega)); (have HOt := Lib.hid hO); (clear hO); (have HS1 := Lib.hid (HRx0.out.six HRa0.out))) | (go_at_call 19; (refine (eqField s0 Ax0 _ _ cx0 h0 At _ _ ct _ rfl HOx0.out.reads HOt.out.reads hNx0 hNt).mono ?_); rintro e w12 ⟨rfl, hB⟩; (have hs12 : w11.heap.size ≤ w12.heap.size := hB.size); (replace HRa0 := Lib.hid (HRa0.out.below hB HRa0.out.lt)); (replace HRw := Lib.hid (HRw.out.below hB HRw.out.lt)); (replace HRx0 := Lib.hid (HRx0.out.below hB HRx0.out.lt)); (replace HRg := Lib.hid (HRg.out.below hB HRg.out.lt)); (replace HOw := Lib.hid (HOw.out.below hB (Nat.le_refl _))); (replace HOx0 := Lib.hid (HOx0.out.below hB (Nat.le_refl _))); (replace HOg := Lib.hid (HOg.out.below hB (Nat.le_refl _))); (replace hT := hT.trans (hB.mono hT.size)); (clear hB); (have HS2 := Lib.hid (HRx0.out.six HRa0.out))))
  clear HS0 HS1 HS2 HOt
  clear qx00 qx01 qx02 qx03 qx04 qx05 qa00 qa01 qa02 qa03 qa04 qa05
  clear hTd
  obtain ⟨qx00, qx01, qx02, qx03, qx04, qx05⟩ := HRx0.out.at_
  go_wp2_with fail
  refine (markField s0 Ax0 _ _ cx0 _ h0 1 _ HOx0.out hNx0 (by omega) (by omega)).mono ?_
  rintro e w13 ⟨rfl, hO', hG⟩
  clear qx00 qx01 qx02 qx03 qx04 qx05
  have hs13 : w12.heap.size ≤ w13.heap.size := hG.size
  replace HRa0 := Lib.hid (HRa0.out.kept hG (fun e => by have h1 := hLx0.out ga0 e.symm; omega))
  replace HRw := Lib.hid (HRw.out.kept hG (fun e => by have h1 := hLx0.out gw e.symm; omega))
  replace HRx0 := Lib.hid (HRx0.out.kept hG (fun e => by have h1 := hLx0.out gx0 e.symm; omega))
  replace HRg := Lib.hid (HRg.out.kept hG (fun e => by have h1 := hLx0.out gg e.symm; omega))
  replace HOw := Lib.hid (HOw.out.sepV hG (fun j k hj hk => by have h1 := hLw.out j hj; have h2 := hLx0.out k hk; omega))
  replace HOg := Lib.hid (HOg.out.sepV hG (fun j k hj hk => by have h1 := hLg.out j hj; have h2 := hLx0.out k hk; omega))
  replace HOx0 := Lib.hid hO'
  replace hT := hT.grown hG hT.size (fun k hk => by have h1 := (hLx0.out k hk).1; omega)
  clear hO' hG
  have hk1 : ¬ ((1 : Int) + (nx0 : Int)) < 0 := by omega
  obtain ⟨qg0, qg1, qg2, qg3, qg4, qg5⟩ := HRg.out.at_
  obtain ⟨qw0, qw1, qw2, qw3, qw4, qw5⟩ := HRw.out.at_
  go_wp2_with fail
  refine (eqField (vI (fvB s0 z0) s0) Ag _ _ cg (vH (fvB s0 z0) (!h0)) Aw _ _ cw _ rfl HOg.out.reads HOw.out.reads hNg hNw).mono ?_
  rintro e w14 ⟨rfl, hB⟩
  clear qg0 qg1 qg2 qg3 qg4 qg5 qw0 qw1 qw2 qw3 qw4 qw5
  have hs14 : w13.heap.size ≤ w14.heap.size := hB.size
  replace HRa0 := Lib.hid (HRa0.out.below hB HRa0.out.lt)
  replace HRw := Lib.hid (HRw.out.below hB HRw.out.lt)
  replace HRx0 := Lib.hid (HRx0.out.below hB HRx0.out.lt)
  replace HRg := Lib.hid (HRg.out.below hB HRg.out.lt)
  replace HOw := Lib.hid (HOw.out.below hB (Nat.le_refl _))
  replace HOx0 := Lib.hid (HOx0.out.below hB (Nat.le_refl _))
  replace HOg := Lib.hid (HOg.out.below hB (Nat.le_refl _))
  replace hT := hT.trans (hB.mono hT.size)
  clear hB
  obtain ⟨qg0, qg1, qg2, qg3, qg4, qg5⟩ := HRg.out.at_
  go_wp2_with fail
  refine (markField (vI (fvB s0 z0) s0) Ag _ _ cg _ (vH (fvB s0 z0) (!h0)) 1 _ HOg.out hNg (by omega) (by omega)).mono ?_
  rintro e w15 ⟨rfl, hO', hG⟩
  clear qg0 qg1 qg2 qg3 qg4 qg5
  have hs15 : w14.heap.size ≤ w15.heap.size := hG.size
  replace HRa0 := Lib.hid (HRa0.out.kept hG (fun e => by have h1 := hLg.out ga0 e.symm; omega))
  replace HRw := Lib.hid (HRw.out.kept hG (fun e => by have h1 := hLg.out gw e.symm; omega))
  replace HRx0 := Lib.hid (HRx0.out.kept hG (fun e => by have h1 := hLg.out gx0 e.symm; omega))
  replace HRg := Lib.hid (HRg.out.kept hG (fun e => by have h1 := hLg.out gg e.symm; omega))
  replace HOw := Lib.hid (HOw.out.sepV hG (fun j k hj hk => by have h1 := hLw.out j hj; have h2 := hLg.out k hk; omega))
  replace HOx0 := Lib.hid (HOx0.out.sepV hG (fun j k hj hk => by have h1 := hLx0.out j hj; have h2 := hLg.out k hk; omega))
  replace HOg := Lib.hid hO'
  replace hT := hT.grown hG hT.size (fun k hk => by have h1 := (hLg.out k hk).1; omega)
  clear hO' hG
  obtain ⟨qg0, qg1, qg2, qg3, qg4, qg5⟩ := HRg.out.at_
  go_wp2_with fail
  refine (heldField (vI (fvB s0 z0) s0) Ag _ cg (vH (fvB s0 z0) (!h0)) 1 _ HOg.out.reads hNg (by omega) (by omega)).mono ?_
  rintro e w16 ⟨rfl, hB⟩
  clear qg0 qg1 qg2 qg3 qg4 qg5
  have hs16 : w15.heap.size ≤ w16.heap.size := hB.size
  replace HRa0 := Lib.hid (HRa0.out.below hB HRa0.out.lt)
  replace HRw := Lib.hid (HRw.out.below hB HRw.out.lt)
  replace HRx0 := Lib.hid (HRx0.out.below hB HRx0.out.lt)
  replace HRg := Lib.hid (HRg.out.below hB HRg.out.lt)
  replace HOw := Lib.hid (HOw.out.below hB (Nat.le_refl _))
  replace HOx0 := Lib.hid (HOx0.out.below hB (Nat.le_refl _))
  replace HOg := Lib.hid (HOg.out.below hB (Nat.le_refl _))
  replace hT := hT.trans (hB.mono hT.size)
  clear hB
  obtain ⟨qa00, qa01, qa02, qa03, qa04, qa05⟩ := HRa0.out.at_
  obtain ⟨qw0, qw1, qw2, qw3, qw4, qw5⟩ := HRw.out.at_
  obtain ⟨qx00, qx01, qx02, qx03, qx04, qx05⟩ := HRx0.out.at_
  obtain ⟨qg0, qg1, qg2, qg3, qg4, qg5⟩ := HRg.out.at_
  go_wp2_with fail
  refine (toField s0 A0 _ z0 c0 h0 _ (hr0.arg (Nat.le_refl _) hT) hn0).mono ?_
  rintro e w17 ⟨Ay0, ny0, cy0, rfl, hO, hB⟩
  clear qa00 qa01 qa02 qa03 qa04 qa05 qw0 qw1 qw2 qw3 qw4 qw5 qx00 qx01 qx02 qx03 qx04 qx05 qg0 qg1 qg2 qg3 qg4 qg5
  have hs17 : w16.heap.size ≤ w17.heap.size := hB.size
  replace HRa0 := Lib.hid (HRa0.out.below hB HRa0.out.lt)
  replace HRw := Lib.hid (HRw.out.below hB HRw.out.lt)
  replace HRx0 := Lib.hid (HRx0.out.below hB HRx0.out.lt)
  replace HRg := Lib.hid (HRg.out.below hB HRg.out.lt)
  replace HOw := Lib.hid (HOw.out.below hB (Nat.le_refl _))
  replace HOx0 := Lib.hid (HOx0.out.below hB (Nat.le_refl _))
  replace HOg := Lib.hid (HOg.out.below hB (Nat.le_refl _))
  replace hT := hT.trans (hB.mono hT.size)
  clear hB
  have hNy0 : ny0 ≤ 1048576 := by have := hO.len; omega
  have hLy0 := Lib.hid hO.lt
  have HOy0 := Lib.hid hO
  clear hO
  go_wp2_with fail
  refine (fieldStep s0 Ay0 _ z0 cy0 h0  _ HOy0.out.reads (by omega)).mono ?_
  rintro e w18 ⟨Ah, nh, ch, rfl, hO, hB⟩
  have hs18 : w17.heap.size ≤ w18.heap.size := hB.size
  replace HRa0 := Lib.hid (HRa0.out.below hB HRa0.out.lt)
  replace HRw := Lib.hid (HRw.out.below hB HRw.out.lt)
  replace HRx0 := Lib.hid (HRx0.out.below hB HRx0.out.lt)
  replace HRg := Lib.hid (HRg.out.below hB HRg.out.lt)
  replace HOw := Lib.hid (HOw.out.below hB (Nat.le_refl _))
  replace HOx0 := Lib.hid (HOx0.out.below hB (Nat.le_refl _))
  replace HOg := Lib.hid (HOg.out.below hB (Nat.le_refl _))
  replace HOy0 := Lib.hid (HOy0.out.below hB (Nat.le_refl _))
  replace hT := hT.trans (hB.mono hT.size)
  clear hB
  have hNh : nh ≤ 1048576 := by have := hO.len; have hk : (vL (fvB s0 z0) (fsL s0 h0 z0)).length ≤ 1048576 := vfs_len rfl hn0; omega
  have hLh := Lib.hid hO.lt
  have HOh := Lib.hid hO
  clear hO
  obtain ⟨w19, hwh⟩ : ∃ W, w18.alloc (.cells #[.int .i64 (vI (fvB s0 z0) s0), .slice Ah nh ch, .bool (vH (fvB s0 z0) (!h0))] 27) = W := ⟨_, rfl⟩
  obtain ⟨gh, hgh⟩ : ∃ g, w18.heap.size = g := ⟨_, rfl⟩
  have hB : Below w18.heap.size w18 w19 := by rw [← hwh]; exact (Below.refl _ _).alloc (Nat.le_refl _) _
  have HRn := Lib.hid (show Row3 w19 gh 27 (.int .i64 (vI (fvB s0 z0) s0)) (.slice Ah nh ch) (.bool (vH (fvB s0 z0) (!h0))) by rw [← hwh, ← hgh]; exact Row3.new _ _ _ _ _)
  have hglh : gh < w19.heap.size := HRn.out.lt
  have hgbh : w18.heap.size ≤ gh := by omega
  have hs19 : w18.heap.size ≤ w19.heap.size := hB.size
  replace HRa0 := Lib.hid (HRa0.out.below hB HRa0.out.lt)
  replace HRw := Lib.hid (HRw.out.below hB HRw.out.lt)
  replace HRx0 := Lib.hid (HRx0.out.below hB HRx0.out.lt)
  replace HRg := Lib.hid (HRg.out.below hB HRg.out.lt)
  replace HOw := Lib.hid (HOw.out.below hB (Nat.le_refl _))
  replace HOx0 := Lib.hid (HOx0.out.below hB (Nat.le_refl _))
  replace HOg := Lib.hid (HOg.out.below hB (Nat.le_refl _))
  replace HOy0 := Lib.hid (HOy0.out.below hB (Nat.le_refl _))
  replace HOh := Lib.hid (HOh.out.below hB (Nat.le_refl _))
  replace hT := hT.trans (hB.mono hT.size)
  clear hB
  have HRh := HRn
  clear HRn
  obtain ⟨qh0, qh1, qh2, qh3, qh4, qh5⟩ := HRh.out.at_
  obtain ⟨qw0, qw1, qw2, qw3, qw4, qw5⟩ := HRw.out.at_
  go_wp2_with fail
  refine (eqField (vI (fvB s0 z0) s0) Ah _ _ ch (vH (fvB s0 z0) (!h0)) Aw _ _ cw _ rfl HOh.out.reads HOw.out.reads hNh hNw).mono ?_
  rintro e w20 ⟨rfl, hB⟩
  have HWh := Lib.hid hwh
  have HGh := Lib.hid hgh
  clear hwh hgh
  clear qh0 qh1 qh2 qh3 qh4 qh5 qw0 qw1 qw2 qw3 qw4 qw5
  have hs20 : w19.heap.size ≤ w20.heap.size := hB.size
  replace HRa0 := Lib.hid (HRa0.out.below hB HRa0.out.lt)
  replace HRw := Lib.hid (HRw.out.below hB HRw.out.lt)
  replace HRx0 := Lib.hid (HRx0.out.below hB HRx0.out.lt)
  replace HRg := Lib.hid (HRg.out.below hB HRg.out.lt)
  replace HRh := Lib.hid (HRh.out.below hB HRh.out.lt)
  replace HOw := Lib.hid (HOw.out.below hB (Nat.le_refl _))
  replace HOx0 := Lib.hid (HOx0.out.below hB (Nat.le_refl _))
  replace HOg := Lib.hid (HOg.out.below hB (Nat.le_refl _))
  replace HOy0 := Lib.hid (HOy0.out.below hB (Nat.le_refl _))
  replace HOh := Lib.hid (HOh.out.below hB (Nat.le_refl _))
  replace hT := hT.trans (hB.mono hT.size)
  clear hB
  obtain ⟨qg0, qg1, qg2, qg3, qg4, qg5⟩ := HRg.out.at_
  go_wp2_with fail
  refine (heldField (vI (fvB s0 z0) s0) Ag _ cg (vH (fvB s0 z0) (!h0)) 1 _ HOg.out.reads hNg (by omega) (by omega)).mono ?_
  rintro e w21 ⟨rfl, hB⟩
  clear qg0 qg1 qg2 qg3 qg4 qg5
  have hs21 : w20.heap.size ≤ w21.heap.size := hB.size
  replace HRa0 := Lib.hid (HRa0.out.below hB HRa0.out.lt)
  replace HRw := Lib.hid (HRw.out.below hB HRw.out.lt)
  replace HRx0 := Lib.hid (HRx0.out.below hB HRx0.out.lt)
  replace HRg := Lib.hid (HRg.out.below hB HRg.out.lt)
  replace HRh := Lib.hid (HRh.out.below hB HRh.out.lt)
  replace HOw := Lib.hid (HOw.out.below hB (Nat.le_refl _))
  replace HOx0 := Lib.hid (HOx0.out.below hB (Nat.le_refl _))
  replace HOg := Lib.hid (HOg.out.below hB (Nat.le_refl _))
  replace HOy0 := Lib.hid (HOy0.out.below hB (Nat.le_refl _))
  replace HOh := Lib.hid (HOh.out.below hB (Nat.le_refl _))
  replace hT := hT.trans (hB.mono hT.size)
  clear hB
  go_wp2
  go_ret
  exact ⟨rfl, hT⟩
end Go.Proofs.Ytmianlihdiccjaa
