/- The walk of the exact law on the same fields. -/
import Derived.Test.YtmianlihdiccjaaFieldM
import Derived.Deep.RegionHeld3
namespace Go.Proofs.Ytmianlihdiccjaa
open Go.RowKit
set_option linter.unusedVariables false

set_option maxHeartbeats 8000000 in
theorem walkFnExactSameField (w : World) (s0 : Int) (A0 : Option Addr) (z0 : List Bool) (c0 : Nat) (h0 : Bool) (hc0 : z0.length ≤ c0 ∧ c0 ≤ maxLen) (hr0 : RL w w.heap.size A0 z0.length z0) (s1 : Int) (A1 : Option Addr) (z1 : List Bool) (c1 : Nat) (h1 : Bool) (hc1 : z1.length ≤ c1 ∧ c1 ≤ maxLen) (hr1 : RL w w.heap.size A1 z1.length z1) :
    Calls Try.prog 6 #[.agg #[.int .i64 s0, .slice A0 z0.length c0, .bool h0], .agg #[.int .i64 s1, .slice A1 z1.length c1, .bool h1]] w fun e w' => e = .returned (.bool true) ∧ Below w.heap.size w w' := by
  have hT : Below w.heap.size w w := Below.refl _ _
  obtain ⟨w1, hwa0⟩ : ∃ W, w.alloc (.cells #[.int .i64 s0, .slice A0 z0.length c0, .bool h0] 24) = W := ⟨_, rfl⟩
  obtain ⟨ga0, hga0⟩ : ∃ g, w.heap.size = g := ⟨_, rfl⟩
  have hB : Below w.heap.size w w1 := by rw [← hwa0]; exact (Below.refl _ _).alloc (Nat.le_refl _) _
  have HRn := Lib.hid (show Row3 w1 ga0 24 (.int .i64 s0) (.slice A0 z0.length c0) (.bool h0) by rw [← hwa0, ← hga0]; exact Row3.new _ _ _ _ _)
  have hgla0 : ga0 < w1.heap.size := HRn.out.lt
  have hgba0 : w.heap.size ≤ ga0 := by omega
  have hs1 : w.heap.size ≤ w1.heap.size := hB.size
  replace hT := hT.trans (hB.mono hT.size)
  clear hB
  have HRa0 := HRn
  clear HRn
  obtain ⟨w2, hwa1⟩ : ∃ W, w1.alloc (.cells #[.int .i64 s1, .slice A1 z1.length c1, .bool h1] 24) = W := ⟨_, rfl⟩
  obtain ⟨ga1, hga1⟩ : ∃ g, w1.heap.size = g := ⟨_, rfl⟩
  have hB : Below w1.heap.size w1 w2 := by rw [← hwa1]; exact (Below.refl _ _).alloc (Nat.le_refl _) _
  have HRn := Lib.hid (show Row3 w2 ga1 24 (.int .i64 s1) (.slice A1 z1.length c1) (.bool h1) by rw [← hwa1, ← hga1]; exact Row3.new _ _ _ _ _)
  have hgla1 : ga1 < w2.heap.size := HRn.out.lt
  have hgba1 : w1.heap.size ≤ ga1 := by omega
  have hs2 : w1.heap.size ≤ w2.heap.size := hB.size
  replace HRa0 := Lib.hid (HRa0.out.below hB HRa0.out.lt)
  replace hT := hT.trans (hB.mono hT.size)
  clear hB
  have HRa1 := HRn
  clear HRn
  obtain ⟨qa00, qa01, qa02, qa03, qa04, qa05⟩ := HRa0.out.at_
  obtain ⟨qa10, qa11, qa12, qa13, qa14, qa15⟩ := HRa1.out.at_
  go_enter Try.func6, Try.ntmps6
  go_wp2_with fail
  refine (szField s0 A0 z0.length c0 h0 (1048576) _ hc0.1 hc0.2 (by omega) (by omega)).mono ?_
  rintro e w3 ⟨rfl, hB⟩
  have HWa0 := Lib.hid hwa0
  have HGa0 := Lib.hid hga0
  clear hwa0 hga0
  have HWa1 := Lib.hid hwa1
  have HGa1 := Lib.hid hga1
  clear hwa1 hga1
  clear qa00 qa01 qa02 qa03 qa04 qa05 qa10 qa11 qa12 qa13 qa14 qa15
  have hs3 : w2.heap.size ≤ w3.heap.size := hB.size
  replace HRa0 := Lib.hid (HRa0.out.below hB HRa0.out.lt)
  replace HRa1 := Lib.hid (HRa1.out.below hB HRa1.out.lt)
  replace hT := hT.trans (hB.mono hT.size)
  clear hB
  by_cases hl0 : (1048576 : Int) < (z0.length : Int)
  · rw [if_pos hl0]
    go_wp2
    go_ret
    exact ⟨rfl, hT⟩
  rw [if_neg hl0]
  have hn0 : z0.length ≤ 1048576 := by omega
  have hnl0 : ¬ (1048576 - (z0.length : Int) : Int) < 0 := by omega
  obtain ⟨qa00, qa01, qa02, qa03, qa04, qa05⟩ := HRa0.out.at_
  obtain ⟨qa10, qa11, qa12, qa13, qa14, qa15⟩ := HRa1.out.at_
  go_wp2_with fail
  refine (szField s1 A1 z1.length c1 h1 (1048576 - (z0.length : Int)) _ hc1.1 hc1.2 (by omega) (by omega)).mono ?_
  rintro e w4 ⟨rfl, hB⟩
  clear qa00 qa01 qa02 qa03 qa04 qa05 qa10 qa11 qa12 qa13 qa14 qa15
  have hs4 : w3.heap.size ≤ w4.heap.size := hB.size
  replace HRa0 := Lib.hid (HRa0.out.below hB HRa0.out.lt)
  replace HRa1 := Lib.hid (HRa1.out.below hB HRa1.out.lt)
  replace hT := hT.trans (hB.mono hT.size)
  clear hB
  by_cases hl1 : (1048576 - (z0.length : Int) : Int) < (z1.length : Int)
  · rw [if_pos hl1]
    go_wp2
    go_ret
    exact ⟨rfl, hT⟩
  rw [if_neg hl1]
  have hn1 : z1.length ≤ 1048576 := by omega
  have hnl1 : ¬ (1048576 - (z0.length : Int) - (z1.length : Int) : Int) < 0 := by omega
  obtain ⟨qa00, qa01, qa02, qa03, qa04, qa05⟩ := HRa0.out.at_
  obtain ⟨qa10, qa11, qa12, qa13, qa14, qa15⟩ := HRa1.out.at_
  go_wp2
  have HS0 := Lib.hid (HRa0.out.six HRa1.out)
  have hTd := hT.drew
  go_region_held3 (fun w' => w'.cell? ⟨ga0, 0, none⟩ = some (.int .i64 s0) ∧ w'.cell? ⟨ga0, 1, none⟩ = some (.slice A0 z0.length c0) ∧ w'.cell? ⟨ga0, 2, none⟩ = some (.bool h0) ∧ w'.cell? ⟨ga1, 0, none⟩ = some (.int .i64 s1) ∧ w'.cell? ⟨ga1, 1, none⟩ = some (.slice A1 z1.length c1) ∧ w'.cell? ⟨ga1, 2, none⟩ = some (.bool h1)) (first | go_keep | exact HS1.out | exact HS2.out | exact HS3.out)
    (first | (go_at_call 17; (with_reducible refine (toField s0 A0 _ z0 c0 h0 _ (hr0.arg (Nat.le_refl _) hTd) hn0).mono ?_); rintro e w5 ⟨At, nt, ct, rfl, hO, hB0⟩; (have hB : Below w4.heap.size w4 w5 := (below_drew w4).trans hB0); (clear hB0); (have hs5 : w4.heap.size ≤ w5.heap.size := hB.size); (replace HRa0 := Lib.hid (HRa0.out.below hB HRa0.out.lt)); (replace HRa1 := Lib.hid (HRa1.out.below hB HRa1.out.lt)); (replace hT := hT.trans (hB.mono hT.size)); (clear hB); (have hNt : nt ≤ 1048576 := (by have := hO.len; omega)); (have HOt := Lib.hid hO); (clear hO); (have HS1 := Lib.hid (HRa0.out.six HRa1.out))) | (go_at_call 17; (with_reducible refine (toField s1 A1 _ z1 c1 h1 _ (hr1.arg (Nat.le_refl _) hT) hn1).mono ?_); rintro e w6 ⟨Au, nu, cu, rfl, hO, hB⟩; (have hs6 : w5.heap.size ≤ w6.heap.size := hB.size); (replace HRa0 := Lib.hid (HRa0.out.below hB HRa0.out.lt)); (replace HRa1 := Lib.hid (HRa1.out.below hB HRa1.out.lt)); (replace HOt := Lib.hid (HOt.out.below hB (Nat.le_refl _))); (replace hT := hT.trans (hB.mono hT.size)); (clear hB); (have hNu : nu ≤ 1048576 := (by have := hO.len; omega)); (have HOu := Lib.hid hO); (clear hO); (have HS2 := Lib.hid (HRa0.out.six HRa1.out))) | (go_at_call 24; (refine (sameFieldS s0 At _ z0 ct h0 s1 Au _ z1 cu h1 _ HOt.out.reads (by omega) HOu.out.reads (by omega)).mono ?_); rintro e w7 ⟨rfl, hB⟩; (have hs7 : w6.heap.size ≤ w7.heap.size := hB.size); (replace HRa0 := Lib.hid (HRa0.out.below hB HRa0.out.lt)); (replace HRa1 := Lib.hid (HRa1.out.below hB HRa1.out.lt)); (replace HOt := Lib.hid (HOt.out.below hB (Nat.le_refl _))); (replace HOu := Lib.hid (HOu.out.below hB (Nat.le_refl _))); (replace hT := hT.trans (hB.mono hT.size)); (clear hB); (have HS3 := Lib.hid (HRa0.out.six HRa1.out))))
  clear HS0 HS1 HS2 HS3 HOt HOu hTd
  clear qa00 qa01 qa02 qa03 qa04 qa05 qa10 qa11 qa12 qa13 qa14 qa15
  obtain ⟨qa00, qa01, qa02, qa03, qa04, qa05⟩ := HRa0.out.at_
  obtain ⟨qa10, qa11, qa12, qa13, qa14, qa15⟩ := HRa1.out.at_
  go_wp2_with fail
  refine (toField s0 A0 _ z0 c0 h0 _ (hr0.arg (Nat.le_refl _) hT) hn0).mono ?_
  rintro e w8 ⟨Ax0, nx0, cx0, rfl, hO, hB⟩
  clear qa00 qa01 qa02 qa03 qa04 qa05 qa10 qa11 qa12 qa13 qa14 qa15
  have hs8 : w7.heap.size ≤ w8.heap.size := hB.size
  replace HRa0 := Lib.hid (HRa0.out.below hB HRa0.out.lt)
  replace HRa1 := Lib.hid (HRa1.out.below hB HRa1.out.lt)
  replace hT := hT.trans (hB.mono hT.size)
  clear hB
  have hNx0 : nx0 ≤ 1048576 := by have := hO.len; omega
  have hLx0 := Lib.hid hO.lt
  have HOx0 := Lib.hid hO
  clear hO
  obtain ⟨w9, hwx0⟩ : ∃ W, w8.alloc (.cells #[.int .i64 s0, .slice Ax0 nx0 cx0, .bool h0] 27) = W := ⟨_, rfl⟩
  obtain ⟨gx0, hgx0⟩ : ∃ g, w8.heap.size = g := ⟨_, rfl⟩
  have hB : Below w8.heap.size w8 w9 := by rw [← hwx0]; exact (Below.refl _ _).alloc (Nat.le_refl _) _
  have HRn := Lib.hid (show Row3 w9 gx0 27 (.int .i64 s0) (.slice Ax0 nx0 cx0) (.bool h0) by rw [← hwx0, ← hgx0]; exact Row3.new _ _ _ _ _)
  have hglx0 : gx0 < w9.heap.size := HRn.out.lt
  have hgbx0 : w8.heap.size ≤ gx0 := by omega
  have hs9 : w8.heap.size ≤ w9.heap.size := hB.size
  replace HRa0 := Lib.hid (HRa0.out.below hB HRa0.out.lt)
  replace HRa1 := Lib.hid (HRa1.out.below hB HRa1.out.lt)
  replace HOx0 := Lib.hid (HOx0.out.below hB (Nat.le_refl _))
  replace hT := hT.trans (hB.mono hT.size)
  clear hB
  have HRx0 := HRn
  clear HRn
  obtain ⟨qa00, qa01, qa02, qa03, qa04, qa05⟩ := HRa0.out.at_
  obtain ⟨qa10, qa11, qa12, qa13, qa14, qa15⟩ := HRa1.out.at_
  obtain ⟨qx00, qx01, qx02, qx03, qx04, qx05⟩ := HRx0.out.at_
  go_wp2_with fail
  refine (toField s1 A1 _ z1 c1 h1 _ (hr1.arg (Nat.le_refl _) hT) hn1).mono ?_
  rintro e w10 ⟨Ax1, nx1, cx1, rfl, hO, hB⟩
  have HWx0 := Lib.hid hwx0
  have HGx0 := Lib.hid hgx0
  clear hwx0 hgx0
  clear qa00 qa01 qa02 qa03 qa04 qa05 qa10 qa11 qa12 qa13 qa14 qa15 qx00 qx01 qx02 qx03 qx04 qx05
  have hs10 : w9.heap.size ≤ w10.heap.size := hB.size
  replace HRa0 := Lib.hid (HRa0.out.below hB HRa0.out.lt)
  replace HRa1 := Lib.hid (HRa1.out.below hB HRa1.out.lt)
  replace HRx0 := Lib.hid (HRx0.out.below hB HRx0.out.lt)
  replace HOx0 := Lib.hid (HOx0.out.below hB (Nat.le_refl _))
  replace hT := hT.trans (hB.mono hT.size)
  clear hB
  have hNx1 : nx1 ≤ 1048576 := by have := hO.len; omega
  have hLx1 := Lib.hid hO.lt
  have HOx1 := Lib.hid hO
  clear hO
  obtain ⟨w11, hwx1⟩ : ∃ W, w10.alloc (.cells #[.int .i64 s1, .slice Ax1 nx1 cx1, .bool h1] 27) = W := ⟨_, rfl⟩
  obtain ⟨gx1, hgx1⟩ : ∃ g, w10.heap.size = g := ⟨_, rfl⟩
  have hB : Below w10.heap.size w10 w11 := by rw [← hwx1]; exact (Below.refl _ _).alloc (Nat.le_refl _) _
  have HRn := Lib.hid (show Row3 w11 gx1 27 (.int .i64 s1) (.slice Ax1 nx1 cx1) (.bool h1) by rw [← hwx1, ← hgx1]; exact Row3.new _ _ _ _ _)
  have hglx1 : gx1 < w11.heap.size := HRn.out.lt
  have hgbx1 : w10.heap.size ≤ gx1 := by omega
  have hs11 : w10.heap.size ≤ w11.heap.size := hB.size
  replace HRa0 := Lib.hid (HRa0.out.below hB HRa0.out.lt)
  replace HRa1 := Lib.hid (HRa1.out.below hB HRa1.out.lt)
  replace HRx0 := Lib.hid (HRx0.out.below hB HRx0.out.lt)
  replace HOx0 := Lib.hid (HOx0.out.below hB (Nat.le_refl _))
  replace HOx1 := Lib.hid (HOx1.out.below hB (Nat.le_refl _))
  replace hT := hT.trans (hB.mono hT.size)
  clear hB
  have HRx1 := HRn
  clear HRn
  obtain ⟨qa00, qa01, qa02, qa03, qa04, qa05⟩ := HRa0.out.at_
  obtain ⟨qa10, qa11, qa12, qa13, qa14, qa15⟩ := HRa1.out.at_
  obtain ⟨qx00, qx01, qx02, qx03, qx04, qx05⟩ := HRx0.out.at_
  obtain ⟨qx10, qx11, qx12, qx13, qx14, qx15⟩ := HRx1.out.at_
  go_wp2_with fail
  refine (sameField s0 Ax0 _ z0 cx0 h0 s1 Ax1 _ z1 cx1 h1  _ HOx0.out.reads (by omega) HOx1.out.reads (by omega)).mono ?_
  rintro e w12 ⟨rfl, hB⟩
  have HWx1 := Lib.hid hwx1
  have HGx1 := Lib.hid hgx1
  clear hwx1 hgx1
  clear qa00 qa01 qa02 qa03 qa04 qa05 qa10 qa11 qa12 qa13 qa14 qa15 qx00 qx01 qx02 qx03 qx04 qx05 qx10 qx11 qx12 qx13 qx14 qx15
  have hs12 : w11.heap.size ≤ w12.heap.size := hB.size
  replace HRa0 := Lib.hid (HRa0.out.below hB HRa0.out.lt)
  replace HRa1 := Lib.hid (HRa1.out.below hB HRa1.out.lt)
  replace HRx0 := Lib.hid (HRx0.out.below hB HRx0.out.lt)
  replace HRx1 := Lib.hid (HRx1.out.below hB HRx1.out.lt)
  replace HOx0 := Lib.hid (HOx0.out.below hB (Nat.le_refl _))
  replace HOx1 := Lib.hid (HOx1.out.below hB (Nat.le_refl _))
  replace hT := hT.trans (hB.mono hT.size)
  clear hB
  obtain ⟨qx00, qx01, qx02, qx03, qx04, qx05⟩ := HRx0.out.at_
  obtain ⟨qa00, qa01, qa02, qa03, qa04, qa05⟩ := HRa0.out.at_
  go_wp2
  have HS0 := Lib.hid (HRx0.out.six HRa0.out)
  have hTd := hT.drew
  go_region_held3 (fun w' => w'.cell? ⟨gx0, 0, none⟩ = some (.int .i64 s0) ∧ w'.cell? ⟨gx0, 1, none⟩ = some (.slice Ax0 nx0 cx0) ∧ w'.cell? ⟨gx0, 2, none⟩ = some (.bool h0) ∧ w'.cell? ⟨ga0, 0, none⟩ = some (.int .i64 s0) ∧ w'.cell? ⟨ga0, 1, none⟩ = some (.slice A0 z0.length c0) ∧ w'.cell? ⟨ga0, 2, none⟩ = some (.bool h0)) (first | go_keep | exact HS1.out | exact HS2.out)
    (first | (go_at_call 17; (refine (toField s0 A0 _ z0 c0 h0 _ (hr0.arg (Nat.le_refl _) hTd) hn0).mono ?_); rintro e w13 ⟨At, nt, ct, rfl, hO, hB0⟩; (have hB : Below w12.heap.size w12 w13 := (below_drew w12).trans hB0); (clear hB0); (have hs13 : w12.heap.size ≤ w13.heap.size := hB.size); (replace HRa0 := Lib.hid (HRa0.out.below hB HRa0.out.lt)); (replace HRa1 := Lib.hid (HRa1.out.below hB HRa1.out.lt)); (replace HRx0 := Lib.hid (HRx0.out.below hB HRx0.out.lt)); (replace HRx1 := Lib.hid (HRx1.out.below hB HRx1.out.lt)); (replace HOx0 := Lib.hid (HOx0.out.below hB (Nat.le_refl _))); (replace HOx1 := Lib.hid (HOx1.out.below hB (Nat.le_refl _))); (replace hT := hT.trans (hB.mono hT.size)); (clear hB); (have hNt : nt ≤ 1048576 := (by have := hO.len; omega)); (have HOt := Lib.hid hO); (clear hO); (have HS1 := Lib.hid (HRx0.out.six HRa0.out))) | (go_at_call 19; (refine (eqField s0 Ax0 _ _ cx0 h0 At _ _ ct _ rfl HOx0.out.reads HOt.out.reads hNx0 hNt).mono ?_); rintro e w14 ⟨rfl, hB⟩; (have hs14 : w13.heap.size ≤ w14.heap.size := hB.size); (replace HRa0 := Lib.hid (HRa0.out.below hB HRa0.out.lt)); (replace HRa1 := Lib.hid (HRa1.out.below hB HRa1.out.lt)); (replace HRx0 := Lib.hid (HRx0.out.below hB HRx0.out.lt)); (replace HRx1 := Lib.hid (HRx1.out.below hB HRx1.out.lt)); (replace HOx0 := Lib.hid (HOx0.out.below hB (Nat.le_refl _))); (replace HOx1 := Lib.hid (HOx1.out.below hB (Nat.le_refl _))); (replace hT := hT.trans (hB.mono hT.size)); (clear hB); (have HS2 := Lib.hid (HRx0.out.six HRa0.out))))
  clear HS0 HS1 HS2 HOt
  clear qx00 qx01 qx02 qx03 qx04 qx05 qa00 qa01 qa02 qa03 qa04 qa05
  clear hTd
  obtain ⟨qx10, qx11, qx12, qx13, qx14, qx15⟩ := HRx1.out.at_
  obtain ⟨qa10, qa11, qa12, qa13, qa14, qa15⟩ := HRa1.out.at_
  go_wp2
  have HS0 := Lib.hid (HRx1.out.six HRa1.out)
  have hTd := hT.drew
  go_region_held3 (fun w' => w'.cell? ⟨gx1, 0, none⟩ = some (.int .i64 s1) ∧ w'.cell? ⟨gx1, 1, none⟩ = some (.slice Ax1 nx1 cx1) ∧ w'.cell? ⟨gx1, 2, none⟩ = some (.bool h1) ∧ w'.cell? ⟨ga1, 0, none⟩ = some (.int .i64 s1) ∧ w'.cell? ⟨ga1, 1, none⟩ = some (.slice A1 z1.length c1) ∧ w'.cell? ⟨ga1, 2, none⟩ = some (.bool h1)) (first | go_keep | exact HS1.out | exact HS2.out)
    (first | (go_at_call 17; (refine (toField s1 A1 _ z1 c1 h1 _ (hr1.arg (Nat.le_refl _) hTd) hn1).mono ?_); rintro e w15 ⟨At, nt, ct, rfl, hO, hB0⟩; (have hB : Below w14.heap.size w14 w15 := (below_drew w14).trans hB0); (clear hB0); (have hs15 : w14.heap.size ≤ w15.heap.size := hB.size); (replace HRa0 := Lib.hid (HRa0.out.below hB HRa0.out.lt)); (replace HRa1 := Lib.hid (HRa1.out.below hB HRa1.out.lt)); (replace HRx0 := Lib.hid (HRx0.out.below hB HRx0.out.lt)); (replace HRx1 := Lib.hid (HRx1.out.below hB HRx1.out.lt)); (replace HOx0 := Lib.hid (HOx0.out.below hB (Nat.le_refl _))); (replace HOx1 := Lib.hid (HOx1.out.below hB (Nat.le_refl _))); (replace hT := hT.trans (hB.mono hT.size)); (clear hB); (have hNt : nt ≤ 1048576 := (by have := hO.len; omega)); (have HOt := Lib.hid hO); (clear hO); (have HS1 := Lib.hid (HRx1.out.six HRa1.out))) | (go_at_call 19; (refine (eqField s1 Ax1 _ _ cx1 h1 At _ _ ct _ rfl HOx1.out.reads HOt.out.reads hNx1 hNt).mono ?_); rintro e w16 ⟨rfl, hB⟩; (have hs16 : w15.heap.size ≤ w16.heap.size := hB.size); (replace HRa0 := Lib.hid (HRa0.out.below hB HRa0.out.lt)); (replace HRa1 := Lib.hid (HRa1.out.below hB HRa1.out.lt)); (replace HRx0 := Lib.hid (HRx0.out.below hB HRx0.out.lt)); (replace HRx1 := Lib.hid (HRx1.out.below hB HRx1.out.lt)); (replace HOx0 := Lib.hid (HOx0.out.below hB (Nat.le_refl _))); (replace HOx1 := Lib.hid (HOx1.out.below hB (Nat.le_refl _))); (replace hT := hT.trans (hB.mono hT.size)); (clear hB); (have HS2 := Lib.hid (HRx1.out.six HRa1.out))))
  clear HS0 HS1 HS2 HOt
  clear qx10 qx11 qx12 qx13 qx14 qx15 qa10 qa11 qa12 qa13 qa14 qa15
  clear hTd
  go_wp2
  go_ret
  exact ⟨rfl, hT⟩
end Go.Proofs.Ytmianlihdiccjaa
